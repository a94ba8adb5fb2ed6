/- Parts of a proof: evaluation of Go code over typed values, and what it computes. -/
import Derived.Test.YtkhndaanjpmgnaaDoorF
import Derived.Test.YtkhndaanjpmgnaaDoorL3
import Derived.Test.YtkhndaanjpmgnaaDoorX4
import Derived.Test.YtkhndaanjpmgnaaDoorL4
set_option linter.unusedSimpArgs false
set_option linter.unusedVariables false
set_option linter.unusedSectionVars false
namespace Go.Sq
open Go.Rx
abbrev by8 (s : ByteArray) (i : Nat) : Nat := (s.data.getD i 0).toNat
theorem by8_lt (s : ByteArray) (i : Nat) : by8 s i < 256 := UInt8.toNat_lt _
abbrev sfx (s : ByteArray) (p : Nat) : ByteArray := s.extract p s.size
theorem sfx_size (s : ByteArray) (p : Nat) : (sfx s p).size = s.size - p := by simp [sfx, ByteArray.size_extract]
theorem by8_sfx (s : ByteArray) (p i : Nat) : by8 (sfx s p) i = by8 s (p + i) := by
 unfold by8 sfx
 congr 1
 rw [Array.getD_eq_getD_getElem?, Array.getD_eq_getD_getElem?]
 congr 1
 rw [ByteArray.data_extract, Array.getElem?_extract]
 split
 ·rfl
 ·rename_i h
  rw [Array.getElem?_eq_none]
  have : s.data.size = s.size := rfl
  omega
theorem sfx_sfx (s : ByteArray) (p q : Nat) : sfx (sfx s p) q = sfx s (p + q) := by
 unfold sfx
 rw [ByteArray.extract_extract]
 congr 1
 have := sfx_size s p
 unfold sfx at this
 rw [this]
 omega
theorem sfx_zero (s : ByteArray) : sfx s 0 = s := by unfold sfx; simp
theorem and_c0 {b : Nat} (h : b < 256) : bitsI .and .u8 (b : Int) 192 = ((b / 64 * 64 : Nat) : Int) := by
 have := and_nat8 (a := b) (b := 192) (by omega) (by decide)
 rw [show (192 : Int) = ((192 : Nat) : Int) from rfl, this]
 congr 1
 revert b; decide +kernel
theorem and_3f {b : Nat} (h : b < 256) : bitsI .and .u8 (b : Int) 63 = ((b % 64 : Nat) : Int) := by
 have := and_nat8 (a := b) (b := 63) (by omega) (by decide)
 rw [show (63 : Int) = ((63 : Nat) : Int) from rfl, this]
 congr 1
 revert b; decide +kernel
theorem or_i64 {a b : Nat} (ha : a < 2 ^ 62) (hb : b < 2 ^ 62) : bitsI .or .i64 (a : Int) (b : Int) = ((a ||| b : Nat) : Int) := by
 have hor : a ||| b < 2 ^ 62 := Nat.or_lt_two_pow ha hb
 have ea : (BitVec.ofInt 64 (a : Int)).toNat = a := by simp; omega
 have eb : (BitVec.ofInt 64 (b : Int)).toNat = b := by simp; omega
 show IntKind.i64.wrap (((BitVec.ofInt 64 (a : Int) ||| BitVec.ofInt 64 (b : Int)).toNat : Nat) : Int) = _
 rw [BitVec.toNat_or, ea, eb]
 exact wrap_i64 (by omega) (by omega)
theorem and_i64 {a b : Nat} (ha : a < 2 ^ 62) (hb : b < 2 ^ 62) : bitsI .and .i64 (a : Int) (b : Int) = ((a &&& b : Nat) : Int) := by
 have hor : a &&& b < 2 ^ 62 := Nat.and_lt_two_pow a hb
 have ea : (BitVec.ofInt 64 (a : Int)).toNat = a := by simp; omega
 have eb : (BitVec.ofInt 64 (b : Int)).toNat = b := by simp; omega
 show IntKind.i64.wrap (((BitVec.ofInt 64 (a : Int) &&& BitVec.ofInt 64 (b : Int)).toNat : Nat) : Int) = _
 rw [BitVec.toNat_and, ea, eb]
 exact wrap_i64 (by omega) (by omega)
theorem six {v b : Nat} (hv : v < 2 ^ 40) (hb : b < 256) : bitsI .or .i64 (shlI .i64 (v : Int) 6) (IntKind.i64.wrap (bitsI .and .u8 (b : Int) 63)) = ((v * 64 + b % 64 : Nat) : Int) := by
 rw [and_3f hb, wrap_i64 (by omega) (by omega)]
 have : shlI .i64 (v : Int) 6 = ((v <<< 6 : Nat) : Int) := by
  show IntKind.i64.wrap ((v : Int) * 2 ^ min (6 : Int).toNat 64) = _
  rw [show min (6 : Int).toNat 64 = 6 from rfl, wrap_i64 (by omega) (by omega), Nat.shiftLeft_eq]
  push_cast; rfl
 rw [this, or_i64 (by rw [Nat.shiftLeft_eq]; omega) (by omega), ← Nat.shiftLeft_add_eq_or_of_lt (by omega : b % 64 < 2 ^ 6), Nat.shiftLeft_eq]
def co (s : ByteArray) (i : Nat) : Prop := i < s.size ∧ by8 s i / 64 = 2
instance (s : ByteArray) (i : Nat) : Decidable (co s i) := by unfold co; infer_instance
def two (s : ByteArray) : Nat := by8 s 0 % 32 * 64 + by8 s 1 % 64
def three (s : ByteArray) : Nat := (by8 s 0 % 16 * 64 + by8 s 1 % 64) * 64 + by8 s 2 % 64
def four (s : ByteArray) : Nat := ((by8 s 0 % 8 * 64 + by8 s 1 % 64) * 64 + by8 s 2 % 64) * 64 + by8 s 3 % 64
def fstR (s : ByteArray) : Nat × Nat :=
 if by8 s 0 < 128 then (by8 s 0, 1)
 else if 194 ≤ by8 s 0 ∧ by8 s 0 < 224 then if co s 1 then (two s, 2) else (0, 0)
 else if 224 ≤ by8 s 0 ∧ by8 s 0 < 240 then if co s 1 ∧ co s 2 ∧ 2048 ≤ three s ∧ ¬ (55296 ≤ three s ∧ three s < 57344) then (three s, 3) else (0, 0)
 else if 240 ≤ by8 s 0 ∧ by8 s 0 < 245 then if co s 1 ∧ co s 2 ∧ co s 3 ∧ 65536 ≤ four s ∧ four s ≤ 1114111 then (four s, 4) else (0, 0)
 else (0, 0)
theorem first_r1 {s : ByteArray} {n v i : Nat} (hi : i < n) (hn : n ≤ s.size) (hv : v < 2 ^ 40) (h4 : n ≤ 4) : g_r15_first_r1 (s, (n : Int), (v : Int), (i : Int), ()) =
  if co s i then some (.inl (s, (n : Int), ((v * 64 + by8 s i % 64 : Nat) : Int), ((i + 1 : Nat) : Int), ())) else some (.inr (.inr (0, 0, ()))) := by
 have hb := by8_lt s i
 have ws : IntKind.i64.wrap ((i : Int) + 1) = ((i + 1 : Nat) : Int) := wrap_succ (by omega)
 simp (disch := omega) only [g_r15_first_r1, dT, wT, Int.toNat_natCast, and_c0 hb, six hv hb, ws]
 by_cases h : by8 s i / 64 = 2
 ·rw [if_pos (show co s i from ⟨by omega, h⟩), nF (by omega)]
 ·rw [if_neg (fun q : co s i => h q.2), nT (by omega)]
theorem first_r1e {s : ByteArray} {n v : Int} : g_r15_first_r1 (s, n, v, n, ()) = some (.inr (.inl (n, v, ()))) := by
 simp only [g_r15_first_r1, Int.lt_irrefl, decide_false, cond_false]
theorem and_low {x m k : Nat} (hx : x < 256) (hm : m < 256) (h : ∀ y, y < 256 → y &&& m = y % k) : bitsI .and .i64 (x : Int) (m : Int) = ((x % k : Nat) : Int) := by
 rw [and_i64 (by omega) (by omega), h x hx]
set_option maxRecDepth 20000 in
theorem first_eq {s : ByteArray} (h : 0 < s.size) : g_r15_first s = some (((fstR s).1 : Int), ((fstR s).2 : Int)) := by
 have hb := by8_lt s 0
 have b1 := by8_lt s 1
 have b2 := by8_lt s 2
 have b3 := by8_lt s 3
 have w0 : IntKind.i64.wrap ((s.data.getD 0 0).toNat : Int) = (by8 s 0 : Int) := wrap_i64 (show (_ : Int) ≤ (by8 s 0 : Int) by omega) (show (by8 s 0 : Int) < _ by omega)
 unfold g_r15_first fstR
 rw [wT (by omega) (by omega)]
 simp only [w0]
 by_cases c1 : by8 s 0 < 128
 ·rw [if_pos c1, dT (by omega)]
  rfl
 ·rw [if_neg c1, dF (by omega)]
  by_cases c2 : 194 ≤ by8 s 0
  ·rw [dT (by omega)]
   by_cases c3 : by8 s 0 < 224
   ·rw [if_pos ⟨c2, c3⟩]
    have a := and_low (k := 32) (m := 31) hb (by decide) (by decide +kernel)
    simp only [Option.bind_some, decide_eq_true (show (by8 s 0 : Int) < 224 by omega), cond_true, show ((2 : Int) == 0) = false from rfl, cond_false]
    by_cases hz : 2 ≤ s.size
    ·simp only [decide_eq_false (show ¬ (s.size : Int) < 2 by omega), cond_false]
     rw [show (31 : Int) = ((31 : Nat) : Int) from rfl, a]
     have r1 := first_r1 (s := s) (n := 2) (v := by8 s 0 % 32) (i := 1) (by omega) hz (by omega) (by omega)
     by_cases k1 : co s 1
     ·rw [if_pos k1] at r1 ⊢
      rw [show iter g_r15_first_r1 (s, 2, ((by8 s 0 % 32 : Nat) : Int), 1, ()) = _ from (iter_inl r1).trans (iter_inr first_r1e)]
      rfl
     ·rw [if_neg k1] at r1 ⊢
      rw [show iter g_r15_first_r1 (s, 2, ((by8 s 0 % 32 : Nat) : Int), 1, ()) = _ from iter_inr r1]
      rfl
    ·rw [if_neg (fun q : co s 1 => by have := q.1; omega)]
     simp only [decide_eq_true (show (s.size : Int) < 2 by omega), cond_true]
     rfl
   ·rw [if_neg (fun q => c3 q.2)]
    simp only [Option.bind_some, decide_eq_false (show ¬ (by8 s 0 : Int) < 224 by omega), cond_false]
    rw [dT (by omega)]
    by_cases c4 : by8 s 0 < 240
    ·rw [if_pos ⟨by omega, c4⟩]
     have a := and_low (k := 16) (m := 15) hb (by decide) (by decide +kernel)
     simp only [Option.bind_some, decide_eq_true (show (by8 s 0 : Int) < 240 by omega), cond_true, show ((3 : Int) == 0) = false from rfl, cond_false]
     by_cases hz : 3 ≤ s.size
     ·simp only [decide_eq_false (show ¬ (s.size : Int) < 3 by omega), cond_false]
      rw [show (15 : Int) = ((15 : Nat) : Int) from rfl, a]
      have r1 := first_r1 (s := s) (n := 3) (v := by8 s 0 % 16) (i := 1) (by omega) hz (by omega) (by omega)
      have r2 := first_r1 (s := s) (n := 3) (v := by8 s 0 % 16 * 64 + by8 s 1 % 64) (i := 2) (by omega) hz (by omega) (by omega)
      by_cases k1 : co s 1
      ·rw [if_pos k1] at r1
       by_cases k2 : co s 2
       ·rw [if_pos k2] at r2
        rw [show iter g_r15_first_r1 (s, 3, ((by8 s 0 % 16 : Nat) : Int), 1, ()) = _ from (iter_inl r1).trans ((iter_inl r2).trans (iter_inr first_r1e))]
        have hv : (by8 s 0 % 16 * 64 + by8 s 1 % 64) * 64 + by8 s 2 % 64 = three s := rfl
        rw [hv]
        simp only [Option.bind_some, show (((3 : Nat) : Int) == 3) = true from rfl, cond_true, show (((3 : Nat) : Int) == 4) = false from rfl, cond_false]
        by_cases d1 : three s < 2048
        ·rw [if_neg (fun q => by omega), dT (by omega)]; rfl
        ·rw [dF (by omega)]
         by_cases d2 : 55296 ≤ three s
         ·rw [dT (by omega)]
          by_cases d3 : three s < 57344
          ·rw [if_neg (fun q => q.2.2.2 ⟨d2, d3⟩), dT (by omega)]; rfl
          ·rw [if_pos ⟨k1, k2, by omega, fun q => d3 q.2⟩, dF (by omega)]; rfl
         ·rw [if_pos ⟨k1, k2, by omega, fun q => d2 q.1⟩, dF (by omega)]; rfl
       ·rw [if_neg k2] at r2
        rw [show iter g_r15_first_r1 (s, 3, ((by8 s 0 % 16 : Nat) : Int), 1, ()) = _ from (iter_inl r1).trans (iter_inr r2), if_neg (fun q => k2 q.2.1)]
        rfl
      ·rw [if_neg k1] at r1
       rw [show iter g_r15_first_r1 (s, 3, ((by8 s 0 % 16 : Nat) : Int), 1, ()) = _ from iter_inr r1, if_neg (fun q => k1 q.1)]
       rfl
     ·rw [if_neg (fun q => by have := q.2.1.1; omega)]
      simp only [decide_eq_true (show (s.size : Int) < 3 by omega), cond_true]
      rfl
    ·rw [if_neg (fun q => c4 q.2)]
     simp only [Option.bind_some, decide_eq_false (show ¬ (by8 s 0 : Int) < 240 by omega), cond_false]
     rw [dT (by omega)]
     by_cases c5 : by8 s 0 < 245
     ·rw [if_pos ⟨by omega, c5⟩]
      have a := and_low (k := 8) (m := 7) hb (by decide) (by decide +kernel)
      simp only [Option.bind_some, decide_eq_true (show (by8 s 0 : Int) < 245 by omega), cond_true, show ((4 : Int) == 0) = false from rfl, cond_false]
      by_cases hz : 4 ≤ s.size
      ·simp only [decide_eq_false (show ¬ (s.size : Int) < 4 by omega), cond_false]
       rw [show (7 : Int) = ((7 : Nat) : Int) from rfl, a]
       have r1 := first_r1 (s := s) (n := 4) (v := by8 s 0 % 8) (i := 1) (by omega) hz (by omega) (by omega)
       have r2 := first_r1 (s := s) (n := 4) (v := by8 s 0 % 8 * 64 + by8 s 1 % 64) (i := 2) (by omega) hz (by omega) (by omega)
       have r3 := first_r1 (s := s) (n := 4) (v := (by8 s 0 % 8 * 64 + by8 s 1 % 64) * 64 + by8 s 2 % 64) (i := 3) (by omega) hz (by omega) (by omega)
       by_cases k1 : co s 1
       ·rw [if_pos k1] at r1
        by_cases k2 : co s 2
        ·rw [if_pos k2] at r2
         by_cases k3 : co s 3
         ·rw [if_pos k3] at r3
          rw [show iter g_r15_first_r1 (s, 4, ((by8 s 0 % 8 : Nat) : Int), 1, ()) = _ from (iter_inl r1).trans ((iter_inl r2).trans ((iter_inl r3).trans (iter_inr first_r1e)))]
          have hv : ((by8 s 0 % 8 * 64 + by8 s 1 % 64) * 64 + by8 s 2 % 64) * 64 + by8 s 3 % 64 = four s := rfl
          rw [hv]
          simp only [Option.bind_some, show (((4 : Nat) : Int) == 3) = false from rfl, cond_true, show (((4 : Nat) : Int) == 4) = true from rfl, cond_false]
          by_cases d1 : four s < 65536
          ·rw [if_neg (fun q => by omega), dT (by omega)]; rfl
          ·rw [dF (by omega)]
           by_cases d2 : four s ≤ 1114111
           ·rw [if_pos ⟨k1, k2, k3, by omega, d2⟩]
            simp only [Option.bind_some, decide_eq_false (show ¬ (four s : Int) > 1114111 by omega), cond_false]
           ·rw [if_neg (fun q => d2 q.2.2.2.2)]
            simp only [Option.bind_some, decide_eq_true (show (four s : Int) > 1114111 by omega), cond_true]; rfl
         ·rw [if_neg k3] at r3
          rw [show iter g_r15_first_r1 (s, 4, ((by8 s 0 % 8 : Nat) : Int), 1, ()) = _ from (iter_inl r1).trans ((iter_inl r2).trans (iter_inr r3)), if_neg (fun q => k3 q.2.2.1)]
          rfl
        ·rw [if_neg k2] at r2
         rw [show iter g_r15_first_r1 (s, 4, ((by8 s 0 % 8 : Nat) : Int), 1, ()) = _ from (iter_inl r1).trans (iter_inr r2), if_neg (fun q => k2 q.2.1)]
         rfl
       ·rw [if_neg k1] at r1
        rw [show iter g_r15_first_r1 (s, 4, ((by8 s 0 % 8 : Nat) : Int), 1, ()) = _ from iter_inr r1, if_neg (fun q => k1 q.1)]
        rfl
      ·rw [if_neg (fun q => by have := q.2.2.1.1; omega)]
       simp only [decide_eq_true (show (s.size : Int) < 4 by omega), cond_true]
       rfl
     ·rw [if_neg (fun q => c5 q.2)]
      simp only [Option.bind_some, decide_eq_false (show ¬ (by8 s 0 : Int) < 245 by omega), cond_false]
      rfl
  ·rw [if_neg (fun q => c2 q.1), if_neg (fun q => by omega), if_neg (fun q => by omega), dF (by omega)]
   simp only [Option.bind_some, cond_false]
   rw [dF (by omega)]
   simp only [Option.bind_some, cond_false]
   rw [dF (by omega)]
   rfl
end Go.Sq
namespace Go.Sq
open Go.Rx
theorem fst_pos {s : ByteArray} (h : (fstR s).2 ≠ 0) : 1 ≤ (fstR s).2 ∧ (fstR s).2 ≤ 4 ∧ (0 < s.size → (fstR s).2 ≤ s.size) := by
 unfold fstR at h ⊢
 split
 ·exact ⟨Nat.le_refl 1, show 1 ≤ 4 by decide, id⟩
 ·split
  ·split
   ·rename_i k; exact ⟨show 1 ≤ 2 by decide, show 2 ≤ 4 by decide, fun _ => k.1⟩
   ·rename_i a b c; rw [if_neg a, if_pos b, if_neg c] at h; exact absurd rfl h
  ·split
   ·split
    ·rename_i k; exact ⟨show 1 ≤ 3 by decide, show 3 ≤ 4 by decide, fun _ => k.2.1.1⟩
    ·rename_i a b c d; rw [if_neg a, if_neg b, if_pos c, if_neg d] at h; exact absurd rfl h
   ·split
    ·split
     ·rename_i k; exact ⟨show 1 ≤ 4 by decide, show 4 ≤ 4 by decide, fun _ => k.2.2.1.1⟩
     ·rename_i a b c d e; rw [if_neg a, if_neg b, if_neg c, if_pos d, if_neg e] at h; exact absurd rfl h
    ·rename_i a b c d; rw [if_neg a, if_neg b, if_neg c, if_neg d] at h; exact absurd rfl h
theorem get_by8 (s : ByteArray) (i : Nat) : (s.get! i).toNat = by8 s i := by
 unfold by8
 congr 1
theorem dec_eq {s : ByteArray} {p : Nat} (hp : p < s.size) (h : (fstR (sfx s p)).2 ≠ 0) : Utf8.decode s p = fstR (sfx s p) := by
 have hb := by8_lt s p
 have hz := sfx_size s p
 have g0 : by8 (sfx s p) 0 = by8 s p := by rw [by8_sfx]; rfl
 have g1 : by8 (sfx s p) 1 = by8 s (p + 1) := by8_sfx s p 1
 have g2 : by8 (sfx s p) 2 = by8 s (p + 2) := by8_sfx s p 2
 have g3 : by8 (sfx s p) 3 = by8 s (p + 3) := by8_sfx s p 3
 have cc : ∀ {i}, co (sfx s p) i → (decide (p + i < s.size) && by8 s (p + i) / 64 == 2) = true := fun {i} k => by
  obtain ⟨k1, k2⟩ := k
  rw [hz] at k1
  rw [by8_sfx] at k2
  simp only [Bool.and_eq_true, decide_eq_true_eq, beq_iff_eq]
  exact ⟨by omega, k2⟩
 unfold Utf8.decode
 simp only [get_by8, Nat.add_zero]
 revert h
 unfold fstR
 rw [g0]
 by_cases c1 : by8 s p < 128
 ·simp only [if_pos c1]; intro _; trivial
 ·simp only [if_neg c1]
  by_cases c2 : 194 ≤ by8 s p ∧ by8 s p < 224
  ·simp only [if_pos c2]
   by_cases k : co (sfx s p) 1
   ·simp only [if_pos k]
    intro _
    have t2 : two (sfx s p) = by8 s p % 32 * 64 + by8 s (p + 1) % 64 := by unfold two; rw [g0, g1]
    rw [cc k, Bool.and_true, show (by8 s p / 32 == 6) = true from beq_iff_eq.2 (by omega), if_pos rfl, t2, if_pos (by omega)]
   ·simp only [if_neg k]; intro h; exact absurd rfl h
  ·simp only [if_neg c2]
   by_cases c3 : 224 ≤ by8 s p ∧ by8 s p < 240
   ·simp only [if_pos c3]
    by_cases k : co (sfx s p) 1 ∧ co (sfx s p) 2 ∧ 2048 ≤ three (sfx s p) ∧ ¬(55296 ≤ three (sfx s p) ∧ three (sfx s p) < 57344)
    ·simp only [if_pos k]
     intro _
     have t3 : three (sfx s p) = by8 s p % 16 * 4096 + by8 s (p + 1) % 64 * 64 + by8 s (p + 2) % 64 := by unfold three; rw [g0, g1, g2]; omega
     obtain ⟨k1, k2, k3, k4⟩ := k
     rw [t3] at k3 k4 ⊢
     rw [cc k1, cc k2, show (by8 s p / 32 == 6) = false from beq_false_of_ne (by omega), show (by8 s p / 16 == 14) = true from beq_iff_eq.2 (by omega)]
     simp only [Bool.false_and, Bool.false_eq_true, if_false, Bool.and_self, if_true]
     rw [if_pos]
     simp only [Bool.and_eq_true, decide_eq_true_eq, Utf8.valid, Bool.or_eq_true]
     omega
    ·simp only [if_neg k]; intro h; exact absurd rfl h
   ·simp only [if_neg c3]
    by_cases c4 : 240 ≤ by8 s p ∧ by8 s p < 245
    ·simp only [if_pos c4]
     by_cases k : co (sfx s p) 1 ∧ co (sfx s p) 2 ∧ co (sfx s p) 3 ∧ 65536 ≤ four (sfx s p) ∧ four (sfx s p) ≤ 1114111
     ·simp only [if_pos k]
      intro _
      have t4 : four (sfx s p) = by8 s p % 8 * 262144 + by8 s (p + 1) % 64 * 4096 + by8 s (p + 2) % 64 * 64 + by8 s (p + 3) % 64 := by unfold four; rw [g0, g1, g2, g3]; omega
      obtain ⟨k1, k2, k3, k4, k5⟩ := k
      rw [t4] at k4 k5 ⊢
      rw [cc k1, cc k2, cc k3, show (by8 s p / 32 == 6) = false from beq_false_of_ne (by omega), show (by8 s p / 16 == 14) = false from beq_false_of_ne (by omega), show (by8 s p / 8 == 30) = true from beq_iff_eq.2 (by omega)]
      simp only [Bool.false_and, Bool.false_eq_true, if_false, Bool.and_self, if_true]
      rw [if_pos]
      simp only [Bool.and_eq_true, decide_eq_true_eq, Utf8.valid, Bool.or_eq_true]
      omega
     ·simp only [if_neg k]; intro h; exact absurd rfl h
    ·simp only [if_neg c4]; intro h; exact absurd rfl h
theorem runeLen_pos (s : ByteArray) (p : Nat) : 1 ≤ runeLen s p ∧ runeLen s p ≤ 4 := by
 have h1 : ∀ v : Nat, 1 ≤ (v, 1).2 ∧ (v, 1).2 ≤ 4 := fun _ => ⟨show 1 ≤ 1 by decide, show 1 ≤ 4 by decide⟩
 have h2 : ∀ v : Nat, 1 ≤ (v, 2).2 ∧ (v, 2).2 ≤ 4 := fun _ => ⟨show 1 ≤ 2 by decide, show 2 ≤ 4 by decide⟩
 have h3 : ∀ v : Nat, 1 ≤ (v, 3).2 ∧ (v, 3).2 ≤ 4 := fun _ => ⟨show 1 ≤ 3 by decide, show 3 ≤ 4 by decide⟩
 have h4 : ∀ v : Nat, 1 ≤ (v, 4).2 ∧ (v, 4).2 ≤ 4 := fun _ => ⟨show 1 ≤ 4 by decide, show 4 ≤ 4 by decide⟩
 unfold runeLen Utf8.decode
 simp only
 split
 ·exact h1 _
 ·split
  ·split
   ·exact h2 _
   ·exact h1 _
  ·split
   ·split
    ·exact h3 _
    ·exact h1 _
   ·split
    ·split
     ·exact h4 _
     ·exact h1 _
    ·exact h1 _
def runes (s : ByteArray) : Option (List Nat) :=
 if _h : s.size = 0 then some [] else
 if k : (fstR s).2 = 0 then none else
 (runes (sfx s (fstR s).2)).map ((fstR s).1 :: ·)
termination_by s.size
decreasing_by
 rw [sfx_size]
 have := (fst_pos k).1
 omega
theorem runes_nil {s : ByteArray} (h : s.size = 0) : runes s = some [] := by rw [runes, dif_pos h]
theorem runes_bad {s : ByteArray} (h : s.size ≠ 0) (k : (fstR s).2 = 0) : runes s = none := by rw [runes, dif_neg h, dif_pos k]
theorem runes_step {s : ByteArray} (h : s.size ≠ 0) (k : (fstR s).2 ≠ 0) : runes s = (runes (sfx s (fstR s).2)).map ((fstR s).1 :: ·) := by
 rw [runes, dif_neg h, dif_neg k]
def cleanR (v : Nat) : Bool := decide (32 ≤ v) && v != 127
def nameP (s : ByteArray) : Bool :=
 match runes s with
 | none => false
 | some l => l.all cleanR && decide (l.length ≤ 16)
theorem r15_Name_eq {s : ByteArray} (hs : s.size ≤ 9223372036854775807) : g_r15_Name s = some (nameP s) := by
 obtain ⟨r, h1, h2⟩ := iter_ex (f := g_r15_Name_r1) (fun x => x.1.size)
  (fun x => ∃ l1 : List Nat, x.2.1 = (l1.length : Int) ∧ l1.length + x.1.size ≤ s.size ∧ l1.all cleanR = true ∧ runes s = (runes x.1).map (l1 ++ ·))
  (fun r => match r with
   | .inl (m, _) => ∃ l : List Nat, runes s = some l ∧ m = (l.length : Int) ∧ l.all cleanR = true
   | .inr (b, _) => b = false ∧ nameP s = false) (fun x hx => by
   obtain ⟨t, m, u⟩ := x
   obtain ⟨l1, hm, hsz, hc, hr⟩ := hx
   have hm : m = (l1.length : Int) := hm
   have hsz : l1.length + t.size ≤ s.size := hsz
   have hr : runes s = (runes t).map (l1 ++ ·) := hr
   subst hm
   by_cases h0 : t.size = 0
   ·right
    refine ⟨.inl ((l1.length : Int), ()), by simp (disch := omega) only [g_r15_Name_r1, dF], l1, ?_, rfl, hc⟩
    rw [hr, runes_nil h0, Option.map_some, List.append_nil]
   ·have hf := first_eq (s := t) (by omega)
    by_cases hk : (fstR t).2 = 0
    ·right
     refine ⟨.inr (false, ()), ?_, rfl, ?_⟩
     ·simp (disch := omega) only [g_r15_Name_r1, dT, hf, Option.bind_some, hk, beq_self_eq_true, cond_true, show ((0 : Nat) : Int) = 0 from rfl]
     ·unfold nameP; rw [hr, runes_bad h0 hk]; rfl
    ·have hp := fst_pos hk
     by_cases hcl : cleanR (fstR t).1 = true
     ·left
      have hcl2 := hcl
      simp only [cleanR, Bool.and_eq_true, decide_eq_true_eq, bne_iff_ne] at hcl2
      have ws : IntKind.i64.wrap ((l1.length : Int) + 1) = ((l1.length + 1 : Nat) : Int) := by rw [wrap_i64 (by omega) (by omega)]; rfl
      refine ⟨(sfx t (fstR t).2, ((l1.length + 1 : Nat) : Int), ()), ?_, ⟨l1 ++ [(fstR t).1], by simp, ?_, ?_, ?_⟩, ?_⟩
      ·have e1 : (((fstR t).2 : Int) == 0) = false := beq_false_of_ne (by omega)
       have e2 : (((fstR t).1 : Int) == 127) = false := beq_false_of_ne (by omega)
       simp (disch := omega) only [g_r15_Name_r1, dT, dF, hf, Option.bind_some, e1, e2, cond_false, gT, Int.toNat_natCast, ws]
      ·have := sfx_size t (fstR t).2
       show (l1 ++ [(fstR t).1]).length + (sfx t (fstR t).2).size ≤ s.size
       rw [List.length_append, List.length_singleton]
       have := hp.2.2 (by omega)
       omega
      ·rw [List.all_append, hc]; simp [hcl]
      ·show runes s = (runes (sfx t (fstR t).2)).map _
       rw [hr, runes_step h0 hk, Option.map_map]
       congr 1
       funext q
       simp
      ·have := sfx_size t (fstR t).2
       show (sfx t (fstR t).2).size < t.size
       omega
     ·right
      refine ⟨.inr (false, ()), ?_, rfl, ?_⟩
      ·have e1 : (((fstR t).2 : Int) == 0) = false := beq_false_of_ne (by omega)
       simp only [cleanR, Bool.and_eq_true, decide_eq_true_eq, bne_iff_ne] at hcl
       by_cases h32 : (fstR t).1 < 32
       ·simp (disch := omega) only [g_r15_Name_r1, dT, hf, Option.bind_some, e1, cond_false, cond_true]
       ·have e2 : (((fstR t).1 : Int) == 127) = true := beq_iff_eq.2 (by omega)
        simp (disch := omega) only [g_r15_Name_r1, dT, dF, hf, Option.bind_some, e1, e2, cond_false, cond_true]
      ·unfold nameP
       rw [hr, runes_step h0 hk]
       cases runes (sfx t (fstR t).2) with
       | none => rfl
       | some q =>
        simp only [Option.map_some, List.all_append, List.all_cons, hc, Bool.true_and]
        rw [Bool.not_eq_true] at hcl
        rw [hcl]; rfl) (s, 0, ()) ⟨[], rfl, by simp, rfl, by cases runes s <;> simp⟩
 unfold g_r15_Name
 rw [h1]
 match r, h2 with
 | .inl (m, ()), ⟨l, e1, e2, e3⟩ =>
  simp only [Option.bind_some, e2]
  unfold nameP
  rw [e1]
  simp only [e3, Bool.true_and]
  congr 1
  apply decide_eq_decide.2
  omega
 | .inr (b, ()), ⟨e1, e2⟩ => simp only [Option.bind_some, e1, e2]
end Go.Sq
namespace Go.Sq
open Go.Rx
def maskU : Nat := 9259542123273814144
def wordN (s : ByteArray) : Nat := ((((((by8 s 0 ||| by8 s 1 <<< 8) ||| by8 s 2 <<< 16) ||| by8 s 3 <<< 24) ||| by8 s 4 <<< 32) ||| by8 s 5 <<< 40) ||| by8 s 6 <<< 48) ||| by8 s 7 <<< 56
theorem shl_byte {b n : Nat} (hb : b < 256) (hn : n ≤ 56) : shlI .u64 (IntKind.u64.wrap (b : Int)) (n : Int) = ((b <<< n : Nat) : Int) ∧ b <<< n < 2 ^ 64 := by
 have h1 : b <<< n < 2 ^ 64 := by
  rw [Nat.shiftLeft_eq]
  calc b * 2 ^ n ≤ 255 * 2 ^ 56 := Nat.mul_le_mul (by omega) (Nat.pow_le_pow_right (by decide) hn)
   _ < 2 ^ 64 := by decide
 rw [wrap_u64 (by omega) (by omega), shl_nat64 (by omega), Nat.mod_eq_of_lt h1]
 exact ⟨rfl, h1⟩
theorem word_eq {s : ByteArray} (h : 8 ≤ s.size) : g_unicode_utf8_word_string s = some ((wordN s : Nat) : Int) ∧ wordN s < 2 ^ 64 := by
 have b := by8_lt s
 have b0 := b 0
 obtain ⟨e1, l1⟩ := shl_byte (n := 8) (b 1) (by decide)
 obtain ⟨e2, l2⟩ := shl_byte (n := 16) (b 2) (by decide)
 obtain ⟨e3, l3⟩ := shl_byte (n := 24) (b 3) (by decide)
 obtain ⟨e4, l4⟩ := shl_byte (n := 32) (b 4) (by decide)
 obtain ⟨e5, l5⟩ := shl_byte (n := 40) (b 5) (by decide)
 obtain ⟨e6, l6⟩ := shl_byte (n := 48) (b 6) (by decide)
 obtain ⟨e7, l7⟩ := shl_byte (n := 56) (b 7) (by decide)
 have l0 : by8 s 0 < 2 ^ 64 := by omega
 have m1 := Nat.or_lt_two_pow l0 l1
 have m2 := Nat.or_lt_two_pow m1 l2
 have m3 := Nat.or_lt_two_pow m2 l3
 have m4 := Nat.or_lt_two_pow m3 l4
 have m5 := Nat.or_lt_two_pow m4 l5
 have m6 := Nat.or_lt_two_pow m5 l6
 have m7 := Nat.or_lt_two_pow m6 l7
 refine ⟨?_, m7⟩
 have e0 : IntKind.u64.wrap ((s.data.getD 0 0).toNat : Int) = (by8 s 0 : Int) := wrap_u64 (show (0 : Int) ≤ (by8 s 0 : Int) by omega) (show (by8 s 0 : Int) < _ by omega)
 unfold g_unicode_utf8_word_string
 iterate 8 rw [wT (by omega) (by omega)]
 rw [e0]
 have e1 : shlI .u64 (IntKind.u64.wrap ((s.data.getD 1 0).toNat : Int)) 8 = _ := e1
 have e2 : shlI .u64 (IntKind.u64.wrap ((s.data.getD 2 0).toNat : Int)) 16 = _ := e2
 have e3 : shlI .u64 (IntKind.u64.wrap ((s.data.getD 3 0).toNat : Int)) 24 = _ := e3
 have e4 : shlI .u64 (IntKind.u64.wrap ((s.data.getD 4 0).toNat : Int)) 32 = _ := e4
 have e5 : shlI .u64 (IntKind.u64.wrap ((s.data.getD 5 0).toNat : Int)) 40 = _ := e5
 have e6 : shlI .u64 (IntKind.u64.wrap ((s.data.getD 6 0).toNat : Int)) 48 = _ := e6
 have e7 : shlI .u64 (IntKind.u64.wrap ((s.data.getD 7 0).toNat : Int)) 56 = _ := e7
 rw [e1, e2, e3, e4, e5, e6, e7, or_nat64 l0 l1, or_nat64 m1 l2, or_nat64 m2 l3, or_nat64 m3 l4, or_nat64 m4 l5, or_nat64 m5 l6, or_nat64 m6 l7]
 rfl
theorem hi_bit {b : Nat} (h : b < 256) (h' : 128 ≤ b) : b.testBit 7 = true := by
 revert h h'; revert b; decide +kernel
theorem and_or0 {a b m : Nat} (h : (a ||| b) &&& m = 0) : a &&& m = 0 ∧ b &&& m = 0 := by
 constructor
 ·apply Nat.eq_of_testBit_eq
  intro i
  have := congrArg (·.testBit i) h
  simp only [Nat.testBit_and, Nat.testBit_or, Nat.zero_testBit] at this ⊢
  cases ha : a.testBit i <;> cases hm : m.testBit i <;> simp [ha, hm] at this ⊢
 ·apply Nat.eq_of_testBit_eq
  intro i
  have := congrArg (·.testBit i) h
  simp only [Nat.testBit_and, Nat.testBit_or, Nat.zero_testBit] at this ⊢
  cases ha : b.testBit i <;> cases hm : m.testBit i <;> simp [ha, hm] at this ⊢
theorem low_of {b n : Nat} (hb : b < 256) (h : b <<< n &&& maskU = 0) (hm : maskU.testBit (n + 7) = true) : b < 128 := by
 refine Nat.lt_of_not_le fun h' => ?_
 have := congrArg (·.testBit (n + 7)) h
 have e : (b <<< n).testBit (n + 7) = true := by rw [Nat.testBit_shiftLeft]; simp [hi_bit hb h']
 simp [Nat.testBit_and, e, hm] at this
theorem word_low {s : ByteArray} (h : wordN s &&& maskU = 0) : ∀ i, i < 8 → by8 s i < 128 := by
 have b := by8_lt s
 unfold wordN at h
 obtain ⟨h, h7⟩ := and_or0 h
 obtain ⟨h, h6⟩ := and_or0 h
 obtain ⟨h, h5⟩ := and_or0 h
 obtain ⟨h, h4⟩ := and_or0 h
 obtain ⟨h, h3⟩ := and_or0 h
 obtain ⟨h, h2⟩ := and_or0 h
 obtain ⟨h, h1⟩ := and_or0 h
 intro i hi
 match i, hi with
 | 0, _ => exact low_of (n := 0) (b 0) (by simpa using h) (by decide +kernel)
 | 1, _ => exact low_of (b 1) h1 (by decide +kernel)
 | 2, _ => exact low_of (b 2) h2 (by decide +kernel)
 | 3, _ => exact low_of (b 3) h3 (by decide +kernel)
 | 4, _ => exact low_of (b 4) h4 (by decide +kernel)
 | 5, _ => exact low_of (b 5) h5 (by decide +kernel)
 | 6, _ => exact low_of (b 6) h6 (by decide +kernel)
 | 7, _ => exact low_of (b 7) h7 (by decide +kernel)
theorem test_mask {w : Nat} (h : w < 2 ^ 64) : ((bitsI .and .u64 (w : Int) 9259542123273814144) == 0) = decide (w &&& maskU = 0) := by
 have := and_nat64 (a := w) (b := maskU) h (by decide)
 rw [show (9259542123273814144 : Int) = ((maskU : Nat) : Int) from rfl, this]
 by_cases k : w &&& maskU = 0
 ·rw [k, decide_eq_true rfl]; rfl
 ·rw [decide_eq_false k]; exact beq_false_of_ne (by omega)
theorem fst_low {s : ByteArray} (h : by8 s 0 < 128) : fstR s = (by8 s 0, 1) := if_pos h
theorem runes_skip {s : ByteArray} : ∀ k, k ≤ s.size → (∀ i, i < k → by8 s i < 128) → (runes s).isSome = (runes (sfx s k)).isSome
 | 0, _, _ => by rw [sfx_zero]
 | k + 1, hk, h => by
  have hz := sfx_size s k
  have h0 : by8 (sfx s k) 0 < 128 := by rw [by8_sfx]; exact h k (by omega)
  have e := fst_low h0
  rw [runes_skip k (by omega) (fun i hi => h i (by omega)), runes_step (s := sfx s k) (by omega) (by rw [e]; exact Nat.one_ne_zero), Option.isSome_map, e, sfx_sfx]
theorem valid_r1 (s : ByteArray) : ∃ t : ByteArray, iter g_unicode_utf8_ValidString_r1 (s, ()) = some (t, ()) ∧ t.size ≤ s.size ∧ (runes t).isSome = (runes s).isSome := by
 obtain ⟨r, h1, h2⟩ := iter_ex (f := g_unicode_utf8_ValidString_r1) (fun x => x.1.size) (fun x => x.1.size ≤ s.size ∧ (runes x.1).isSome = (runes s).isSome) (fun r => r.1.size ≤ s.size ∧ (runes r.1).isSome = (runes s).isSome) (fun x hx => by
  obtain ⟨t, u⟩ := x
  obtain ⟨hz, hr⟩ := hx
  have hz : t.size ≤ s.size := hz
  have hr : (runes t).isSome = (runes s).isSome := hr
  by_cases h : 32 < t.size
  ·have z8 := sfx_size t 8
   have z16 := sfx_size t 16
   have z24 := sfx_size t 24
   have z32 := sfx_size t 32
   obtain ⟨w0, l0⟩ := word_eq (s := t) (by omega)
   obtain ⟨w1, l1⟩ := word_eq (s := sfx t 8) (by omega)
   obtain ⟨w2, l2⟩ := word_eq (s := sfx t 16) (by omega)
   obtain ⟨w3, l3⟩ := word_eq (s := sfx t 24) (by omega)
   have m := test_mask (Nat.or_lt_two_pow (Nat.or_lt_two_pow l0 l1) (Nat.or_lt_two_pow l2 l3))
   have e1 := or_nat64 l0 l1
   have e2 := or_nat64 l2 l3
   have e3 := or_nat64 (Nat.or_lt_two_pow l0 l1) (Nat.or_lt_two_pow l2 l3)
   by_cases k : ((wordN t ||| wordN (sfx t 8)) ||| (wordN (sfx t 16) ||| wordN (sfx t 24))) &&& maskU = 0
   ·left
    refine ⟨(sfx t 32, ()), ?_, ⟨by show (sfx t 32).size ≤ _; omega, ?_⟩, by show (sfx t 32).size < t.size; omega⟩
    ·simp (disch := omega) only [g_unicode_utf8_ValidString_r1, dT, w0, w1, w2, w3, Option.bind_some, gT, Int.toNat_natCast, e1, e2, e3, m, decide_eq_true k, cond_true]
    ·obtain ⟨ka, kb⟩ := and_or0 k
     obtain ⟨k0, k1⟩ := and_or0 ka
     obtain ⟨k2, k3⟩ := and_or0 kb
     show (runes (sfx t 32)).isSome = _
     rw [← runes_skip (s := t) 32 (by omega) (fun i hi => ?_)]
     ·exact hr
     ·by_cases i0 : i < 8
      ·exact word_low k0 i i0
      ·by_cases i1 : i < 16
       ·have := word_low k1 (i - 8) (by omega); rw [by8_sfx, show 8 + (i - 8) = i by omega] at this; exact this
       ·by_cases i2 : i < 24
        ·have := word_low k2 (i - 16) (by omega); rw [by8_sfx, show 16 + (i - 16) = i by omega] at this; exact this
        ·have := word_low k3 (i - 24) (by omega); rw [by8_sfx, show 24 + (i - 24) = i by omega] at this; exact this
   ·right
    refine ⟨(t, ()), ?_, hz, hr⟩
    simp (disch := omega) only [g_unicode_utf8_ValidString_r1, dT, w0, w1, w2, w3, Option.bind_some, gT, Int.toNat_natCast, e1, e2, e3, m, decide_eq_false k, cond_false]
  ·right
   refine ⟨(t, ()), ?_, hz, hr⟩
   simp (disch := omega) only [g_unicode_utf8_ValidString_r1, dF, Option.bind_some, cond_false]) (s, ()) ⟨Nat.le_refl _, rfl⟩
 exact ⟨r.1, h1, h2⟩
end Go.Sq
namespace Go.Sq
open Go.Rx
theorem skip_word {s : ByteArray} (h : 8 ≤ s.size) (k : wordN s &&& maskU = 0) : (runes (sfx s 8)).isSome = (runes s).isSome := (runes_skip 8 h (word_low k)).symm
theorem valid_low {s : ByteArray} (h0 : 0 < s.size) (hx : by8 s 0 < 128) : ∃ t : ByteArray, g_unicode_utf8_ValidString_r2 (s, ()) = some (.inl (t, ())) ∧ t.size < s.size ∧ (runes t).isSome = (runes s).isSome := by
 have z1 := sfx_size s 1
 have q1 : (runes (sfx s 1)).isSome = (runes s).isSome := (runes_skip 1 h0 (fun i hi => by rw [show i = 0 by omega]; exact hx)).symm
 obtain ⟨u, eu⟩ : ∃ u, sfx s 1 = u := ⟨_, rfl⟩
 have e1 : s.extract 1 s.size = u := eu
 have hxi : ((s.data.getD 0 0).toNat : Int) < 128 := by show (by8 s 0 : Int) < 128; omega
 rw [eu] at z1 q1
 by_cases h8 : 8 < u.size
 ·obtain ⟨w0, l0⟩ := word_eq (s := u) (by omega)
  have m0 := test_mask l0
  by_cases k0 : wordN u &&& maskU = 0
  ·have z2 := sfx_size u 8
   have q2 := skip_word (s := u) (by omega) k0
   obtain ⟨v, ev⟩ : ∃ v, sfx u 8 = v := ⟨_, rfl⟩
   have e2 : u.extract 8 u.size = v := ev
   rw [ev] at z2 q2
   by_cases h16 : 16 < v.size
   ·have z3 := sfx_size v 8
    obtain ⟨w1, l1⟩ := word_eq (s := v) (by omega)
    obtain ⟨w2, l2⟩ := word_eq (s := sfx v 8) (by omega)
    have o := or_nat64 l1 l2
    have m := test_mask (Nat.or_lt_two_pow l1 l2)
    by_cases k : (wordN v ||| wordN (sfx v 8)) &&& maskU = 0
    ·obtain ⟨k1, k2⟩ := and_or0 k
     have z4 := sfx_size v 16
     have q3 : (runes (sfx v 16)).isSome = (runes v).isSome := by
      rw [← skip_word (s := v) (by omega) k1, ← skip_word (s := sfx v 8) (by omega) k2, sfx_sfx]
     obtain ⟨t, r1, r2, r3⟩ := valid_r1 (sfx v 16)
     refine ⟨t, ?_, by omega, r3.trans (q3.trans (q2.trans q1))⟩
     simp (disch := omega) only [g_unicode_utf8_ValidString_r2, dT, wT, gT, Int.toNat_natCast, e1, w0, Option.bind_some, m0, decide_eq_true k0, cond_true, e2, w1, w2, o, m, decide_eq_true k, r1]
    ·refine ⟨v, ?_, by omega, q2.trans q1⟩
     simp (disch := omega) only [g_unicode_utf8_ValidString_r2, dT, wT, gT, Int.toNat_natCast, e1, w0, Option.bind_some, m0, decide_eq_true k0, cond_true, e2, w1, w2, o, m, decide_eq_false k, cond_false]
   ·refine ⟨v, ?_, by omega, q2.trans q1⟩
    simp (disch := omega) only [g_unicode_utf8_ValidString_r2, dT, dF, wT, gT, Int.toNat_natCast, e1, w0, Option.bind_some, m0, decide_eq_true k0, cond_true, e2, cond_false]
  ·refine ⟨u, ?_, by omega, q1⟩
   simp (disch := omega) only [g_unicode_utf8_ValidString_r2, dT, wT, gT, Int.toNat_natCast, e1, w0, Option.bind_some, m0, decide_eq_false k0, cond_false]
 ·refine ⟨u, ?_, by omega, q1⟩
  simp (disch := omega) only [g_unicode_utf8_ValidString_r2, dT, dF, wT, gT, Int.toNat_natCast, e1, Option.bind_some, cond_false]
def clsN (x : Nat) : Nat := (tb_first.getD x 0).toNat % 8
def accN (x : Nat) : Nat := (tb_first.getD x 0).toNat / 16
theorem tb_facts : ∀ x, x < 256 → IntKind.i64.wrap (bitsI .and .u8 (tb_first.getD x 0) 7) = (clsN x : Int) ∧ shrI .u8 (tb_first.getD x 0) 4 = (accN x : Int) ∧ accN x < 16 := by decide +kernel
theorem tb_c1 : ∀ x, x < 256 → 194 ≤ x → x < 224 → clsN x = 2 ∧ accN x = 0 := by decide +kernel
theorem tb_c3 : ∀ x, x < 256 → 224 < x → x < 240 → x ≠ 237 → clsN x = 3 ∧ accN x = 0 := by decide +kernel
theorem tb_c6 : ∀ x, x < 256 → 240 < x → x < 244 → clsN x = 4 ∧ accN x = 0 := by decide +kernel
theorem tb_c8 : ∀ x, x < 256 → 128 ≤ x → (x < 194 ∨ 244 < x) → clsN x = 1 := by decide +kernel
theorem tb_c2 : (clsN 224 = 3 ∧ accN 224 = 1) ∧ (clsN 237 = 3 ∧ accN 237 = 2) ∧ (clsN 240 = 4 ∧ accN 240 = 3) ∧ (clsN 244 = 4 ∧ accN 244 = 4) := by decide +kernel
theorem tb_acc : (tb_accept.getD 0 (0, 0) = (128, 191)) ∧ (tb_accept.getD 1 (0, 0) = (160, 191)) ∧ (tb_accept.getD 2 (0, 0) = (128, 159)) ∧ (tb_accept.getD 3 (0, 0) = (144, 191)) ∧ (tb_accept.getD 4 (0, 0) = (128, 143)) := by decide +kernel
theorem tb_accN : ∀ a, a < 16 → tb_accept.getD a (0, 0) = (((tb_accept.getD a (0, 0)).1.toNat : Int), ((tb_accept.getD a (0, 0)).2.toNat : Int)) := by decide +kernel
def okN (s : ByteArray) (lo hi : Nat) : Nat → Prop
 | 2 => 2 ≤ s.size ∧ lo ≤ by8 s 1 ∧ by8 s 1 ≤ hi
 | 3 => 3 ≤ s.size ∧ lo ≤ by8 s 1 ∧ by8 s 1 ≤ hi ∧ 128 ≤ by8 s 2 ∧ by8 s 2 ≤ 191
 | 4 => 4 ≤ s.size ∧ lo ≤ by8 s 1 ∧ by8 s 1 ≤ hi ∧ 128 ≤ by8 s 2 ∧ by8 s 2 ≤ 191 ∧ 128 ≤ by8 s 3 ∧ by8 s 3 ≤ 191
 | _ => False
instance (s : ByteArray) (lo hi n : Nat) : Decidable (okN s lo hi n) := by unfold okN; split <;> infer_instance
theorem valid_hi {s : ByteArray} (h0 : 0 < s.size) (hx : 128 ≤ by8 s 0) {lo hi : Nat} (ht : tb_accept.getD (accN (by8 s 0)) (0, 0) = ((lo : Int), (hi : Int))) :
  g_unicode_utf8_ValidString_r2 (s, ()) = if okN s lo hi (clsN (by8 s 0)) then some (.inl (sfx s (clsN (by8 s 0)), ())) else some (.inr (.inr (false, ()))) := by
 have b0 := by8_lt s 0
 obtain ⟨f1, f2, f3⟩ := tb_facts (by8 s 0) b0
 have en : (((s.data.getD 0 0).toNat : Int)).toNat = by8 s 0 := rfl
 have hxi : decide (((s.data.getD 0 0).toNat : Int) < 128) = false := decide_eq_false (show ¬ (by8 s 0 : Int) < 128 by omega)
 have hxw : within ((s.data.getD 0 0).toNat : Int) 256 = true := within_iff.2 ⟨show (0 : Int) ≤ (by8 s 0 : Int) by omega, show (by8 s 0 : Int) < _ by omega⟩
 have haw : within ((accN (by8 s 0) : Nat) : Int) 16 = true := within_iff.2 ⟨by omega, by omega⟩
 have ea : (((accN (by8 s 0) : Nat) : Int)).toNat = accN (by8 s 0) := rfl
 have g1 : ((s.data.getD 1 0).toNat : Int) = (by8 s 1 : Int) := rfl
 have g2 : ((s.data.getD 2 0).toNat : Int) = (by8 s 2 : Int) := rfl
 have g3 : ((s.data.getD 3 0).toNat : Int) = (by8 s 3 : Int) := rfl
 have hc : clsN (by8 s 0) < 8 := Nat.mod_lt _ (by decide)
 have step : ∀ {r}, r = g_unicode_utf8_ValidString_r2 (s, ()) → r = g_unicode_utf8_ValidString_r2 (s, ()) := id
 unfold g_unicode_utf8_ValidString_r2
 simp only [decide_eq_true (show (s.size : Int) > 0 by omega), cond_true, within_iff.2 (show (0 : Int) ≤ 0 ∧ (0 : Int) < (s.size : Int) by omega), hxi, cond_false, hxw, en, f1, f2, haw, ea, ht, g1, g2, g3]
 generalize clsN (by8 s 0) = c at hc ⊢
 by_cases c2 : c = 2
 ·subst c2
  rw [eT (show ((2 : Nat) : Int) = 2 from rfl)]
  by_cases hz : s.size < 2
  ·rw [if_neg (fun q => by have := q.1; omega)]
   simp only [decide_eq_true (show (s.size : Int) < 2 by omega), cond_true, Option.bind_some]
  ·simp only [decide_eq_false (show ¬ (s.size : Int) < 2 by omega), cond_false, within_iff.2 (show (0 : Int) ≤ 1 ∧ (1 : Int) < (s.size : Int) by omega), cond_true]
   by_cases h1 : by8 s 1 < lo
   ·rw [if_neg (fun q => by have := q.2.1; omega)]
    simp only [decide_eq_true (show (by8 s 1 : Int) < (lo : Int) by omega), cond_true, Option.bind_some]
   ·simp only [decide_eq_false (show ¬ (by8 s 1 : Int) < (lo : Int) by omega), cond_false, Option.bind_some]
    by_cases h2 : hi < by8 s 1
    ·rw [if_neg (fun q => by have := q.2.2; omega)]
     simp only [decide_eq_true (show (hi : Int) < (by8 s 1 : Int) by omega), cond_true]
    ·rw [if_pos ⟨by omega, by omega, by omega⟩]
     simp only [decide_eq_false (show ¬ (hi : Int) < (by8 s 1 : Int) by omega), cond_false]
     rw [gT (by omega) (by omega) (by omega), Int.toNat_natCast]
 ·rw [eF (by omega)]
  by_cases c3 : c = 3
  ·subst c3
   rw [eT (show ((3 : Nat) : Int) = 3 from rfl)]
   by_cases hz : s.size < 3
   ·rw [if_neg (fun q => by have := q.1; omega)]
    simp only [decide_eq_true (show (s.size : Int) < 3 by omega), cond_true, Option.bind_some]
   ·simp only [decide_eq_false (show ¬ (s.size : Int) < 3 by omega), cond_false, within_iff.2 (show (0 : Int) ≤ 1 ∧ (1 : Int) < (s.size : Int) by omega), within_iff.2 (show (0 : Int) ≤ 2 ∧ (2 : Int) < (s.size : Int) by omega), cond_true]
    by_cases h1 : by8 s 1 < lo
    ·rw [if_neg (fun q => by have := q.2.1; omega)]
     simp only [decide_eq_true (show (by8 s 1 : Int) < (lo : Int) by omega), cond_true, Option.bind_some]
    ·simp only [decide_eq_false (show ¬ (by8 s 1 : Int) < (lo : Int) by omega), cond_false]
     by_cases h2 : hi < by8 s 1
     ·rw [if_neg (fun q => by have := q.2.2.1; omega)]
      simp only [decide_eq_true (show (hi : Int) < (by8 s 1 : Int) by omega), cond_true, Option.bind_some]
     ·simp only [decide_eq_false (show ¬ (hi : Int) < (by8 s 1 : Int) by omega), cond_false]
      by_cases h3 : by8 s 2 < 128
      ·rw [if_neg (fun q => by have := q.2.2.2.1; omega)]
       simp only [decide_eq_true (show (by8 s 2 : Int) < 128 by omega), cond_true, Option.bind_some]
      ·simp only [decide_eq_false (show ¬ (by8 s 2 : Int) < 128 by omega), cond_false, Option.bind_some]
       by_cases h4 : 191 < by8 s 2
       ·rw [if_neg (fun q => by have := q.2.2.2.2; omega)]
        simp only [decide_eq_true (show (191 : Int) < (by8 s 2 : Int) by omega), cond_true]
       ·rw [if_pos ⟨by omega, by omega, by omega, by omega, by omega⟩]
        simp only [decide_eq_false (show ¬ (191 : Int) < (by8 s 2 : Int) by omega), cond_false]
        rw [gT (by omega) (by omega) (by omega), Int.toNat_natCast]
  ·rw [eF (by omega)]
   by_cases c4 : c = 4
   ·subst c4
    rw [eT (show ((4 : Nat) : Int) = 4 from rfl)]
    by_cases hz : s.size < 4
    ·rw [if_neg (fun q => by have := q.1; omega)]
     simp only [decide_eq_true (show (s.size : Int) < 4 by omega), cond_true, Option.bind_some]
    ·simp only [decide_eq_false (show ¬ (s.size : Int) < 4 by omega), cond_false, within_iff.2 (show (0 : Int) ≤ 1 ∧ (1 : Int) < (s.size : Int) by omega), within_iff.2 (show (0 : Int) ≤ 2 ∧ (2 : Int) < (s.size : Int) by omega), within_iff.2 (show (0 : Int) ≤ 3 ∧ (3 : Int) < (s.size : Int) by omega), cond_true]
     by_cases h1 : by8 s 1 < lo
     ·rw [if_neg (fun q => by have := q.2.1; omega)]
      simp only [decide_eq_true (show (by8 s 1 : Int) < (lo : Int) by omega), cond_true, Option.bind_some]
     ·simp only [decide_eq_false (show ¬ (by8 s 1 : Int) < (lo : Int) by omega), cond_false]
      by_cases h2 : hi < by8 s 1
      ·rw [if_neg (fun q => by have := q.2.2.1; omega)]
       simp only [decide_eq_true (show (hi : Int) < (by8 s 1 : Int) by omega), cond_true, Option.bind_some]
      ·simp only [decide_eq_false (show ¬ (hi : Int) < (by8 s 1 : Int) by omega), cond_false]
       by_cases h3 : by8 s 2 < 128
       ·rw [if_neg (fun q => by have := q.2.2.2.1; omega)]
        simp only [decide_eq_true (show (by8 s 2 : Int) < 128 by omega), cond_true, Option.bind_some]
       ·simp only [decide_eq_false (show ¬ (by8 s 2 : Int) < 128 by omega), cond_false]
        by_cases h4 : 191 < by8 s 2
        ·rw [if_neg (fun q => by have := q.2.2.2.2.1; omega)]
         simp only [decide_eq_true (show (191 : Int) < (by8 s 2 : Int) by omega), cond_true, Option.bind_some]
        ·simp only [decide_eq_false (show ¬ (191 : Int) < (by8 s 2 : Int) by omega), cond_false]
         by_cases h5 : by8 s 3 < 128
         ·rw [if_neg (fun q => by have := q.2.2.2.2.2.1; omega)]
          simp only [decide_eq_true (show (by8 s 3 : Int) < 128 by omega), cond_true, Option.bind_some]
         ·simp only [decide_eq_false (show ¬ (by8 s 3 : Int) < 128 by omega), cond_false, Option.bind_some]
          by_cases h6 : 191 < by8 s 3
          ·rw [if_neg (fun q => by have := q.2.2.2.2.2.2; omega)]
           simp only [decide_eq_true (show (191 : Int) < (by8 s 3 : Int) by omega), cond_true]
          ·rw [if_pos ⟨by omega, by omega, by omega, by omega, by omega, by omega, by omega⟩]
           simp only [decide_eq_false (show ¬ (191 : Int) < (by8 s 3 : Int) by omega), cond_false]
           rw [gT (by omega) (by omega) (by omega), Int.toNat_natCast]
   ·rw [eF (by omega), if_neg]
    match c, hc, c2, c3, c4 with
    | 0, _, _, _, _ => exact id
    | 1, _, _, _, _ => exact id
    | 5, _, _, _, _ => exact id
    | 6, _, _, _, _ => exact id
    | 7, _, _, _, _ => exact id
theorem valid_step {s : ByteArray} (h0 : 0 < s.size) (hx : 128 ≤ by8 s 0) : g_unicode_utf8_ValidString_r2 (s, ()) = if (fstR s).2 = 0 then some (.inr (.inr (false, ()))) else some (.inl (sfx s (fstR s).2, ())) := by
 have b0 := by8_lt s 0
 have b1 := by8_lt s 1
 have b2 := by8_lt s 2
 have b3 := by8_lt s 3
 obtain ⟨a0, a1, a2, a3, a4⟩ := tb_acc
 obtain ⟨c2, c4, c5, c7⟩ := tb_c2
 have fin : ∀ {lo hi n : Nat}, tb_accept.getD (accN (by8 s 0)) (0, 0) = ((lo : Int), (hi : Int)) → clsN (by8 s 0) = n → (okN s lo hi n → (fstR s).2 = n ∧ n ≠ 0) → (¬ okN s lo hi n → (fstR s).2 = 0) →
   g_unicode_utf8_ValidString_r2 (s, ()) = if (fstR s).2 = 0 then some (.inr (.inr (false, ()))) else some (.inl (sfx s (fstR s).2, ())) := by
  intro lo hi n ht hc hy hn
  rw [valid_hi h0 hx ht, hc]
  by_cases k : okN s lo hi n
  ·obtain ⟨e1, e2⟩ := hy k
   rw [if_pos k, e1, if_neg e2]
  ·rw [if_neg k, hn k, if_pos rfl]
 have n0 : ¬ by8 s 0 < 128 := by omega
 have f2 : 194 ≤ by8 s 0 → by8 s 0 < 224 → fstR s = if co s 1 then (two s, 2) else (0, 0) := fun p q => by unfold fstR; rw [if_neg n0, if_pos ⟨p, q⟩]
 have f3 : 224 ≤ by8 s 0 → by8 s 0 < 240 → fstR s = if co s 1 ∧ co s 2 ∧ 2048 ≤ three s ∧ ¬ (55296 ≤ three s ∧ three s < 57344) then (three s, 3) else (0, 0) := fun p q => by
  unfold fstR; rw [if_neg n0, if_neg (by omega), if_pos ⟨p, q⟩]
 have f4 : 240 ≤ by8 s 0 → by8 s 0 < 245 → fstR s = if co s 1 ∧ co s 2 ∧ co s 3 ∧ 65536 ≤ four s ∧ four s ≤ 1114111 then (four s, 4) else (0, 0) := fun p q => by
  unfold fstR; rw [if_neg n0, if_neg (by omega), if_neg (by omega), if_pos ⟨p, q⟩]
 have t3 : three s = by8 s 0 % 16 * 4096 + by8 s 1 % 64 * 64 + by8 s 2 % 64 := by unfold three; omega
 have t4 : four s = by8 s 0 % 8 * 262144 + by8 s 1 % 64 * 4096 + by8 s 2 % 64 * 64 + by8 s 3 % 64 := by unfold four; omega
 have three_of : ∀ {lo hi : Nat}, 224 ≤ by8 s 0 → by8 s 0 < 240 → (by8 s 1 / 64 = 2 → by8 s 2 / 64 = 2 → ((lo ≤ by8 s 1 ∧ by8 s 1 ≤ hi) ↔ 2048 ≤ three s ∧ ¬ (55296 ≤ three s ∧ three s < 57344))) → 128 ≤ lo → hi ≤ 191 →
   (okN s lo hi 3 → (fstR s).2 = 3 ∧ 3 ≠ 0) ∧ (¬ okN s lo hi 3 → (fstR s).2 = 0) := by
  intro lo hi p q hh hlo hhi
  rw [f3 p q]
  refine ⟨fun k => ?_, fun k => ?_⟩
  ·obtain ⟨k1, k2, k3, k4, k5⟩ := k
   have := (hh (by omega) (by omega)).1 ⟨k2, k3⟩
   rw [if_pos ⟨⟨by omega, by omega⟩, ⟨by omega, by omega⟩, this⟩]
   exact ⟨rfl, by decide⟩
  ·rw [if_neg fun r => ?_]
   obtain ⟨⟨r1, r2⟩, ⟨r3, r4⟩, r5⟩ := r
   have := (hh r2 r4).2 r5
   exact k ⟨by omega, this.1, this.2, by omega, by omega⟩
 have four_of : ∀ {lo hi : Nat}, 240 ≤ by8 s 0 → by8 s 0 < 245 → (by8 s 1 / 64 = 2 → by8 s 2 / 64 = 2 → by8 s 3 / 64 = 2 → ((lo ≤ by8 s 1 ∧ by8 s 1 ≤ hi) ↔ 65536 ≤ four s ∧ four s ≤ 1114111)) → 128 ≤ lo → hi ≤ 191 →
   (okN s lo hi 4 → (fstR s).2 = 4 ∧ 4 ≠ 0) ∧ (¬ okN s lo hi 4 → (fstR s).2 = 0) := by
  intro lo hi p q hh hlo hhi
  rw [f4 p q]
  refine ⟨fun k => ?_, fun k => ?_⟩
  ·obtain ⟨k1, k2, k3, k4, k5, k6, k7⟩ := k
   have := (hh (by omega) (by omega) (by omega)).1 ⟨k2, k3⟩
   rw [if_pos ⟨⟨by omega, by omega⟩, ⟨by omega, by omega⟩, ⟨by omega, by omega⟩, this⟩]
   exact ⟨rfl, by decide⟩
  ·rw [if_neg fun r => ?_]
   obtain ⟨⟨r1, r2⟩, ⟨r3, r4⟩, ⟨r5, r6⟩, r7⟩ := r
   have := (hh r2 r4 r6).2 r7
   exact k ⟨by omega, this.1, this.2, by omega, by omega, by omega, by omega⟩
 by_cases k1 : by8 s 0 < 194 ∨ 244 < by8 s 0
 ·have hc := tb_c8 _ b0 hx k1
  have hz : (fstR s).2 = 0 := by unfold fstR; rw [if_neg n0, if_neg (by omega), if_neg (by omega), if_neg (by omega)]
  have ht := tb_accN _ (tb_facts _ b0).2.2
  exact fin ht hc (fun k => k.elim) (fun _ => hz)
 ·by_cases k2 : by8 s 0 < 224
  ·obtain ⟨d1, d2⟩ := tb_c1 _ b0 (by omega) k2
   refine fin (lo := 128) (hi := 191) (by rw [d2]; exact a0) d1 (fun k => ?_) (fun k => ?_)
   ·obtain ⟨k1, k2, k3⟩ := k
    rw [f2 (by omega) (by omega), if_pos ⟨by omega, by omega⟩]
    exact ⟨rfl, by decide⟩
   ·rw [f2 (by omega) (by omega), if_neg fun r => k ⟨by have := r.1; omega, by have := r.2; omega, by have := r.2; omega⟩]
  ·by_cases k3 : by8 s 0 < 240
   ·by_cases k4 : by8 s 0 = 224
    ·have hh := three_of (lo := 160) (hi := 191) (by omega) k3 (fun p q => by rw [t3, k4]; omega) (by decide) (by decide)
     exact fin (by rw [k4, c2.2]; exact a1) (by rw [k4]; exact c2.1) hh.1 hh.2
    ·by_cases k5 : by8 s 0 = 237
     ·have hh := three_of (lo := 128) (hi := 159) (by omega) k3 (fun p q => by rw [t3, k5]; omega) (by decide) (by decide)
      exact fin (by rw [k5, c4.2]; exact a2) (by rw [k5]; exact c4.1) hh.1 hh.2
     ·obtain ⟨d1, d2⟩ := tb_c3 _ b0 (by omega) k3 k5
      have hh := three_of (lo := 128) (hi := 191) (by omega) k3 (fun p q => by rw [t3]; omega) (by decide) (by decide)
      exact fin (by rw [d2]; exact a0) d1 hh.1 hh.2
   ·by_cases k4 : by8 s 0 = 240
    ·have hh := four_of (lo := 144) (hi := 191) (by omega) (by omega) (fun p q r => by rw [t4, k4]; omega) (by decide) (by decide)
     exact fin (by rw [k4, c5.2]; exact a3) (by rw [k4]; exact c5.1) hh.1 hh.2
    ·by_cases k5 : by8 s 0 = 244
     ·have hh := four_of (lo := 128) (hi := 143) (by omega) (by omega) (fun p q r => by rw [t4, k5]; omega) (by decide) (by decide)
      exact fin (by rw [k5, c7.2]; exact a4) (by rw [k5]; exact c7.1) hh.1 hh.2
     ·obtain ⟨d1, d2⟩ := tb_c6 _ b0 (by omega) (by omega)
      have hh := four_of (lo := 128) (hi := 191) (by omega) (by omega) (fun p q r => by rw [t4]; omega) (by decide) (by decide)
      exact fin (by rw [d2]; exact a0) d1 hh.1 hh.2
theorem Valid_eq (s : ByteArray) : g_unicode_utf8_ValidString s = some (runes s).isSome := by
 obtain ⟨r, h1, h2⟩ := iter_ex (f := g_unicode_utf8_ValidString_r2) (fun x => x.1.size) (fun x => (runes x.1).isSome = (runes s).isSome)
  (fun r => match r with
   | .inl _ => (runes s).isSome = true
   | .inr (b, _) => b = false ∧ (runes s).isSome = false) (fun x hx => by
  obtain ⟨t, u⟩ := x
  have hx : (runes t).isSome = (runes s).isSome := hx
  by_cases h0 : t.size = 0
  ·right
   refine ⟨.inl (), by simp (disch := omega) only [g_unicode_utf8_ValidString_r2, dF], ?_⟩
   show (runes s).isSome = true
   rw [← hx, runes_nil h0]; rfl
  ·by_cases hl : by8 t 0 < 128
   ·obtain ⟨v, e1, e2, e3⟩ := valid_low (s := t) (by omega) hl
    exact .inl ⟨(v, ()), e1, e3.trans hx, e2⟩
   ·have e := valid_step (s := t) (by omega) (by omega)
    by_cases hk : (fstR t).2 = 0
    ·right
     rw [if_pos hk] at e
     exact ⟨.inr (false, ()), e, rfl, by rw [← hx, runes_bad h0 hk]; rfl⟩
    ·left
     rw [if_neg hk] at e
     have hz := sfx_size t (fstR t).2
     have hp := fst_pos hk
     refine ⟨(sfx t (fstR t).2, ()), e, ?_, by show (sfx t (fstR t).2).size < t.size; omega⟩
     show (runes (sfx t (fstR t).2)).isSome = _
     rw [← hx, runes_step h0 hk, Option.isSome_map]) (s, ()) rfl
 unfold g_unicode_utf8_ValidString
 rw [h1]
 match r, h2 with
 | .inl (), e => simp only [Option.bind_some, show (runes s).isSome = true from e]
 | .inr (b, ()), ⟨e1, e2⟩ => simp only [Option.bind_some, e1, e2]
end Go.Sq
namespace Go.Sq
open Go.Rx
theorem clean_eq (v : Nat) : g_wire_clean (v : Int) = some (cleanR v) := by
 unfold g_wire_clean cleanR
 by_cases h : 32 ≤ v
 ·simp (disch := omega) only [dT, cond_true, decide_eq_true h, Bool.true_and]
  congr 1
  by_cases h2 : v = 127
  ·subst h2; rfl
  ·rw [bne_iff_ne.2 h2]
   exact bne_iff_ne.2 (by omega)
 ·simp (disch := omega) only [dF, cond_false, decide_eq_false h, Bool.false_and]
theorem wire_Name_eq {s : ByteArray} (hs : s.size ≤ 9223372036854775807) : g_wire_Name s = some (nameP s) := by
 obtain ⟨r, h1, h2⟩ := iter_ex (f := g_wire_Name_r1) (fun x => s.size - x.2.2.1.2.toNat)
  (fun x => x.1 = s ∧ x.2.2.1.1 = s ∧ ∃ p m : Nat, x.2.2.1.2 = (p : Int) ∧ x.2.1 = (m : Int) ∧ m ≤ p ∧ (runes s = none ∨ (p ≤ s.size ∧ ∃ l1 : List Nat, m = l1.length ∧ l1.all cleanR = true ∧ runes s = (runes (sfx s p)).map (l1 ++ ·))))
  (fun r => match r with
   | .inl (t, m, _) => t = s ∧ (runes s = none ∨ ∃ l : List Nat, runes s = some l ∧ m = (l.length : Int) ∧ l.all cleanR = true)
   | .inr (b, _) => b = false ∧ nameP s = false) (fun x hx => by
   obtain ⟨t, mm, ⟨t', pp⟩, u⟩ := x
   obtain ⟨e1, e2, p, m, e3, e4, hmp, hI⟩ := hx
   have e1 : t = s := e1
   have e2 : t' = s := e2
   have e3 : pp = (p : Int) := e3
   have e4 : mm = (m : Int) := e4
   subst e1 e2 e3 e4
   by_cases h0 : p < t'.size
   ·have hd : g_wire_clean (runeAt t' p) = some (cleanR (Utf8.decode t' p).1) := clean_eq _
    have hl := runeLen_pos t' p
    by_cases hcl : cleanR (Utf8.decode t' p).1 = true
    ·left
     have ws : IntKind.i64.wrap ((m : Int) + 1) = ((m + 1 : Nat) : Int) := by rw [wrap_i64 (by omega) (by omega)]; rfl
     refine ⟨(t', ((m + 1 : Nat) : Int), (t', ((p + runeLen t' p : Nat) : Int)), ()), ?_, ⟨rfl, rfl, p + runeLen t' p, m + 1, rfl, rfl, by omega, ?_⟩, ?_⟩
     ·simp (disch := omega) only [g_wire_Name_r1, Int.toNat_natCast, decide_eq_true h0, cond_true, hd, Option.bind_some, hcl, Bool.not_true, cond_false, ws, Int.natCast_add]
     ·rcases hI with h | ⟨hp, l1, hm, hc, hr⟩
      ·exact .inl h
      ·have z := sfx_size t' p
       by_cases hk : (fstR (sfx t' p)).2 = 0
       ·left; rw [hr, runes_bad (by omega) hk]; rfl
       ·right
        have hdec := dec_eq h0 hk
        have hp2 := (fst_pos hk).2.2 (by omega)
        have hrl : runeLen t' p = (fstR (sfx t' p)).2 := by unfold runeLen; rw [hdec]
        rw [hdec] at hcl
        refine ⟨by omega, l1 ++ [(fstR (sfx t' p)).1], by simp [hm], by rw [List.all_append, hc]; simp [hcl], ?_⟩
        rw [hr, runes_step (by omega) hk, Option.map_map, sfx_sfx, hrl]
        congr 1
        funext q
        simp
     ·show t'.size - ((p + runeLen t' p : Nat) : Int).toNat < t'.size - (p : Int).toNat
      omega
    ·right
     rw [Bool.not_eq_true] at hcl
     refine ⟨.inr (false, ()), ?_, rfl, ?_⟩
     ·simp (disch := omega) only [g_wire_Name_r1, Int.toNat_natCast, decide_eq_true h0, cond_true, hd, Option.bind_some, hcl, Bool.not_false]
     ·unfold nameP
      rcases hI with h | ⟨hp, l1, hm, hc, hr⟩
      ·rw [h]
      ·have z := sfx_size t' p
       by_cases hk : (fstR (sfx t' p)).2 = 0
       ·rw [hr, runes_bad (by omega) hk]; rfl
       ·rw [dec_eq h0 hk] at hcl
        rw [hr, runes_step (by omega) hk]
        cases runes (sfx (sfx t' p) (fstR (sfx t' p)).2) with
        | none => rfl
        | some q =>
         simp only [Option.map_some, List.all_append, List.all_cons, hc, Bool.true_and, hcl, Bool.false_and]
   ·right
    refine ⟨.inl (t', (m : Int), ()), ?_, rfl, ?_⟩
    ·simp (disch := omega) only [g_wire_Name_r1, Int.toNat_natCast, decide_eq_false h0, cond_false]
    ·rcases hI with h | ⟨hp, l1, hm, hc, hr⟩
     ·exact .inl h
     ·right
      have z := sfx_size t' p
      exact ⟨l1, by rw [hr, runes_nil (by omega), Option.map_some, List.append_nil], by omega, hc⟩) (s, 0, (s, 0), ()) ⟨rfl, rfl, 0, 0, rfl, rfl, Nat.le_refl _, .inr ⟨Nat.zero_le _, [], rfl, rfl, by rw [sfx_zero]; cases runes s <;> simp⟩⟩
 unfold g_wire_Name
 rw [h1]
 match r, h2 with
 | .inl (t, m, ()), ⟨e0, h⟩ =>
  subst e0
  simp only [Option.bind_some, Valid_eq]
  unfold nameP
  rcases h with h | ⟨l, e1, e2, e3⟩
  ·rw [h]; cases decide (m ≤ 16) <;> rfl
  ·rw [e1, e2]
   by_cases h16 : l.length ≤ 16
   ·simp (disch := omega) only [dT, cond_true, decide_eq_true h16, e3]; rfl
   ·simp (disch := omega) only [dF, cond_false, decide_eq_false h16, Bool.and_false]
 | .inr (b, ()), ⟨e1, e2⟩ => simp only [Option.bind_some, e1, e2]
end Go.Sq
namespace Go.Sq
open Go.Rx
abbrev Msg := Int × Int × Int × Int × Int × Int × Int × Int × ByteArray × List Int
def nO (x : Int) : Bool := decide (x ≥ 0) && decide (x ≤ 1073741824)
def okM (m : Msg) : Bool :=
 decide (m.1 ≥ 1) && decide (m.1 ≤ 15) && decide ((m.2.2.2.2.2.2.2.2.2.length : Int) ≤ 64) && ((m.1 == 13) == decide ((m.2.2.2.2.2.2.2.2.2.length : Int) > 0)) &&
 nO m.2.1 && nO m.2.2.1 && nO m.2.2.2.1 && nO m.2.2.2.2.1 && nO m.2.2.2.2.2.1 && nO m.2.2.2.2.2.2.1 && nO m.2.2.2.2.2.2.2.1 &&
 (bif m.1 == 1 || m.1 == 9 || m.1 == 5 then nameP m.2.2.2.2.2.2.2.2.1 else strEq m.2.2.2.2.2.2.2.2.1 (ByteArray.mk #[]))
def err (b : Bool) : Int := bif b then 0 else 1
theorem andK {M R : Type} (b p q : Bool) (m : M) (k : Bool × M × Unit → Option R) :
  ((bif b then bif p then some (q, m, ()) else some (false, m, ()) else some (false, m, ())) : Option (Bool × M × Unit)).bind k = k (b && (p && q), m, ()) := by
 cases b <;> cases p <;> rfl
theorem wire_Check_eq {m : Msg} (h : m.2.2.2.2.2.2.2.2.1.size ≤ 9223372036854775807) : g_wire_Check m = some (err (okM m)) := by
 have hn := wire_Name_eq h
 unfold g_wire_Check
 have e1 : ∀ k : Bool × Msg × Unit → Option Int, ((bif (decide (m.1 ≥ 1)) then bif (decide (m.1 ≤ 15)) then bif (decide ((m.2.2.2.2.2.2.2.2.2.length : Int) ≤ 64)) then
   some (((m.1 == 13) == (decide ((m.2.2.2.2.2.2.2.2.2.length : Int) > 0))), m, ()) else some (false, m, ()) else some (false, m, ()) else some (false, m, ())) : Option (Bool × Msg × Unit)).bind k =
   k (decide (m.1 ≥ 1) && decide (m.1 ≤ 15) && decide ((m.2.2.2.2.2.2.2.2.2.length : Int) ≤ 64) && ((m.1 == 13) == decide ((m.2.2.2.2.2.2.2.2.2.length : Int) > 0)), m, ()) := by
  intro k
  cases decide (m.1 ≥ 1) <;> cases decide (m.1 ≤ 15) <;> cases decide ((m.2.2.2.2.2.2.2.2.2.length : Int) ≤ 64) <;> rfl
 rw [e1]
 simp only [andK]
 have e2 : ∀ {R : Type} (b : Bool) (k : Bool × Bool × Msg × Unit → Option R), ((bif (m.1 == 1) then some (b, true, m, ()) else bif (m.1 == 9) then some (b, true, m, ()) else some (b, (m.1 == 5), m, ())) : Option (Bool × Bool × Msg × Unit)).bind k = k (b, m.1 == 1 || m.1 == 9 || m.1 == 5, m, ()) := by
  intro R b k
  cases m.1 == 1 <;> cases m.1 == 9 <;> rfl
 simp only [e2, hn, Option.bind_some]
 unfold okM nO err
 generalize (decide (m.1 ≥ 1) && decide (m.1 ≤ 15) && decide ((m.2.2.2.2.2.2.2.2.2.length : Int) ≤ 64) && ((m.1 == 13) == decide ((m.2.2.2.2.2.2.2.2.2.length : Int) > 0)) &&
  (decide (m.2.1 ≥ 0) && decide (m.2.1 ≤ 1073741824)) && (decide (m.2.2.1 ≥ 0) && decide (m.2.2.1 ≤ 1073741824)) && (decide (m.2.2.2.1 ≥ 0) && decide (m.2.2.2.1 ≤ 1073741824)) && (decide (m.2.2.2.2.1 ≥ 0) && decide (m.2.2.2.2.1 ≤ 1073741824)) && (decide (m.2.2.2.2.2.1 ≥ 0) && decide (m.2.2.2.2.2.1 ≤ 1073741824)) && (decide (m.2.2.2.2.2.2.1 ≥ 0) && decide (m.2.2.2.2.2.2.1 ≤ 1073741824)) && (decide (m.2.2.2.2.2.2.2.1 ≥ 0) && decide (m.2.2.2.2.2.2.2.1 ≤ 1073741824))) = b
 cases b <;> cases (m.1 == 1 || m.1 == 9 || m.1 == 5) <;> (first | rfl | (simp only [cond_true, cond_false, Bool.true_and, Option.bind_some]; first | rfl | (cases nameP m.2.2.2.2.2.2.2.2.1 <;> rfl) | (cases strEq m.2.2.2.2.2.2.2.2.1 (ByteArray.mk #[]) <;> rfl)))
theorem strEq_nil {s : ByteArray} : strEq s (ByteArray.mk #[]) = decide (s.size = 0) := by
 unfold strEq
 by_cases h : s.size = 0
 ·rw [decide_eq_true h]
  have : s = ByteArray.mk #[] := by
   have h' : s.data.size = 0 := h
   cases s with | mk d => exact congrArg ByteArray.mk (Array.eq_empty_of_size_eq_zero h')
  rw [this]; exact beq_self_eq_true _
 ·rw [decide_eq_false h]
  apply beq_false_of_ne
  intro e
  have e2 := congrArg List.length e
  rw [Go.ByteArray.toList_eq, Go.ByteArray.toList_eq] at e2
  exact h (by simpa using e2)
theorem nameP_nil {s : ByteArray} (h : s.size = 0) : nameP s = true := by unfold nameP; rw [runes_nil h]; rfl
end Go.Sq
namespace Go.Sq
open Go.Rx
def scanL {A S R : Type} (stp : S → A → S ⊕ R) : S → List A → S ⊕ R
 | s, [] => .inl s
 | s, a :: l => match stp s a with
  | .inl s' => scanL stp s' l
  | .inr r => .inr r
theorem iter_scan {X R R' A S : Type} {f : X → Option (X ⊕ R)} (l : List A) (st : Nat → S → X) (stp : S → A → S ⊕ R') (bad : R' → R) (fin : S → R)
  (h : ∀ i a s, l[i]? = some a → f (st i s) = some (match stp s a with
   | .inl s' => .inl (st (i + 1) s')
   | .inr r => .inr (bad r))) (he : ∀ s, f (st l.length s) = some (.inr (fin s))) (s : S) :
  iter f (st 0 s) = some (match scanL stp s l with
   | .inl s' => fin s'
   | .inr r => bad r) := by
 have key : ∀ (l2 l1 : List A) (s : S), l = l1 ++ l2 → iter f (st l1.length s) = some (match scanL stp s l2 with
   | .inl s' => fin s'
   | .inr r => bad r) := by
  intro l2
  induction l2 with
  | nil =>
   intro l1 s e
   rw [List.append_nil] at e
   rw [← e]
   exact iter_inr (he s)
  | cons a l2 ih =>
   intro l1 s e
   have := h l1.length a s (by rw [e]; simp)
   unfold scanL
   cases hs : stp s a with
   | inl s' =>
    rw [hs] at this
    rw [iter_inl this]
    have := ih (l1 ++ [a]) s' (by rw [e]; simp)
    rwa [List.length_append, List.length_singleton] at this
   | inr r =>
    rw [hs] at this
    exact iter_inr this
 exact key l [] s rfl
theorem gD {A : Type} {l : List A} {i : Nat} {a : A} (h : l[i]? = some a) (d : A) : l.getD i d = a := by rw [List.getD_eq_getElem?_getD, h]; rfl
theorem lt_of_get {A : Type} {l : List A} {i : Nat} {a : A} (h : l[i]? = some a) : i < l.length := (List.getElem?_eq_some_iff.1 h).1
theorem scan_all {A : Type} (p : A → Bool) : ∀ l : List A, scanL (fun (_ : Unit) a => bif p a then Sum.inl () else Sum.inr ()) () l = bif l.all p then .inl () else .inr ()
 | [] => rfl
 | a :: l => by
  rw [scanL, List.all_cons]
  cases h : p a with
  | true => simp only [cond_true, Bool.true_and]; exact scan_all p l
  | false => simp only [cond_false, Bool.false_and]
theorem nO_T {a : Int} (h : 0 ≤ a) (h2 : a ≤ 1073741824) : nO a = true := by unfold nO; rw [decide_eq_true h, decide_eq_true h2]; rfl
theorem nO_F {a : Int} (h : a < 0 ∨ 1073741824 < a) : nO a = false := by
 unfold nO
 rcases h with h | h
 ·rw [decide_eq_false (by omega)]; rfl
 ·rw [decide_eq_false (p := a ≤ 1073741824) (by omega), Bool.and_false]
theorem r15_nums {l : List Int} {m : Msg} (hl : l.length ≤ 1000) : iter g_r15_Check_r1 (l, (l.length : Int), 0, m, ()) = some (bif l.all nO then .inl (m, ()) else .inr (1, ())) := by
 have := iter_scan (f := g_r15_Check_r1) l (fun i _ => (l, (l.length : Int), (i : Int), m, ())) (fun (_ : Unit) a => bif nO a then Sum.inl () else Sum.inr ()) (fun _ => .inr (1, ())) (fun _ => .inl (m, ()))
  (fun i a s hi => by
   have hi2 := lt_of_get hi
   have ws : IntKind.i64.wrap ((i : Int) + 1) = ((i + 1 : Nat) : Int) := by rw [wrap_i64 (by omega) (by omega)]; rfl
   simp (disch := omega) only [g_r15_Check_r1, dT, wT, Int.toNat_natCast, gD hi]
   by_cases h1 : a < 0
   ·simp (disch := omega) only [dT, cond_true, cond_false, Option.bind_some, nO_F]
   ·by_cases h2 : a > 1073741824
    ·simp (disch := omega) only [dF, decide_eq_true, cond_true, cond_false, Option.bind_some, nO_F]
    ·simp (disch := omega) only [dF, decide_eq_false, cond_true, cond_false, Option.bind_some, nO_T, ws])
  (fun s => by simp (disch := omega) only [g_r15_Check_r1, dF]) ()
 rw [scan_all] at this
 refine Eq.trans this ?_
 cases l.all nO <;> rfl
theorem r15_Check_eq {m : Msg} (h : m.2.2.2.2.2.2.2.2.1.size ≤ 9223372036854775807) : g_r15_Check m = some (err (okM m)) := by
 have hn := r15_Name_eq h
 have hz := @strEq_nil m.2.2.2.2.2.2.2.2.1
 have hz2 := @nameP_nil m.2.2.2.2.2.2.2.2.1
 unfold g_r15_Check okM err
 have hnum : g_r15_numbers m = some [m.2.1, m.2.2.1, m.2.2.2.1, m.2.2.2.2.1, m.2.2.2.2.2.1, m.2.2.2.2.2.2.1, m.2.2.2.2.2.2.2.1] := rfl
 by_cases h1 : m.1 < 1
 ·simp (disch := omega) only [dT, decide_eq_false, cond_true, cond_false, Option.bind_some, Bool.false_and]
 by_cases h2 : m.1 > 15
 ·simp (disch := omega) only [dT, dF, decide_eq_false, cond_true, cond_false, Option.bind_some, Bool.false_and, Bool.and_false]
 simp (disch := omega) only [dT, dF, decide_eq_true, cond_true, cond_false, Option.bind_some, hn, Bool.true_and]
 by_cases h3 : (m.2.2.2.2.2.2.2.2.2.length : Int) > 64
 ·cases hq : nameP m.2.2.2.2.2.2.2.2.1 <;> simp (disch := omega) only [decide_eq_true, decide_eq_false, cond_true, cond_false, Option.bind_some, Bool.not_true, Bool.not_false, Bool.false_and]
 simp (disch := omega) only [decide_eq_false (p := (m.2.2.2.2.2.2.2.2.2.length : Int) > 64), decide_eq_true (p := (m.2.2.2.2.2.2.2.2.2.length : Int) ≤ 64), hnum, Option.bind_some, Bool.true_and]
 have hnn := r15_nums (l := [m.2.1, m.2.2.1, m.2.2.2.1, m.2.2.2.2.1, m.2.2.2.2.2.1, m.2.2.2.2.2.2.1, m.2.2.2.2.2.2.2.1]) (m := m) (by simp)
 simp only [List.all_cons, List.all_nil, Bool.and_true] at hnn
 rw [hz]
 cases hq : nameP m.2.2.2.2.2.2.2.2.1 with
 | false =>
  have : decide (m.2.2.2.2.2.2.2.2.1.size = 0) = false := decide_eq_false fun e => by rw [hz2 e] at hq; cases hq
  simp only [this, Bool.not_false, cond_true, Option.bind_some]
  cases (m.1 == 1 || m.1 == 9 || m.1 == 5) <;> simp only [cond_true, cond_false, Bool.and_false]
 | true =>
  simp only [Bool.not_true, cond_false, Option.bind_some, hnum, hnn]
  simp only [Bool.and_assoc]
  have ra : ∀ x : Bool, (nO m.2.1 && (nO m.2.2.1 && (nO m.2.2.2.1 && (nO m.2.2.2.2.1 && (nO m.2.2.2.2.2.1 && (nO m.2.2.2.2.2.2.1 && (nO m.2.2.2.2.2.2.2.1 && x))))))) = ((nO m.2.1 && (nO m.2.2.1 && (nO m.2.2.2.1 && (nO m.2.2.2.2.1 && (nO m.2.2.2.2.2.1 && (nO m.2.2.2.2.2.2.1 && nO m.2.2.2.2.2.2.2.1)))))) && x) := fun x => by simp only [Bool.and_assoc]
  rw [ra]
  generalize (nO m.2.1 && (nO m.2.2.1 && (nO m.2.2.2.1 && (nO m.2.2.2.2.1 && (nO m.2.2.2.2.2.1 && (nO m.2.2.2.2.2.2.1 && nO m.2.2.2.2.2.2.2.1)))))) = b at *
  cases b with
  | false => simp only [cond_false, Option.bind_some, Bool.false_and, Bool.and_false]
  | true =>
   have e2 : ∀ {R : Type} (k : Bool × Msg × Unit → Option R), ((bif (m.1 == 1) then some (true, m, ()) else bif (m.1 == 9) then some (true, m, ()) else some ((m.1 == 5), m, ())) : Option (Bool × Msg × Unit)).bind k = k (m.1 == 1 || m.1 == 9 || m.1 == 5, m, ()) := by
    intro R k
    cases m.1 == 1 <;> cases m.1 == 9 <;> rfl
   simp only [cond_true, Option.bind_some, Bool.true_and, e2, hz]
   generalize decide (m.2.2.2.2.2.2.2.2.1.size = 0) = c
   generalize decide ((m.2.2.2.2.2.2.2.2.2.length : Int) > 0) = d
   generalize (m.1 == 13) = g
   generalize (m.1 == 1 || m.1 == 9 || m.1 == 5) = e
   cases e <;> cases c <;> cases d <;> cases g <;> rfl
end Go.Sq
namespace Go.Sq
open Go.Rx
theorem iter_scanI {X R R' A S : Type} {f : X → Option (X ⊕ R)} (Inv : S → Prop) (l : List A) (st : Nat → S → X) (stp : S → A → S ⊕ R') (bad : R' → R) (fin : S → R)
  (h : ∀ i a s, l[i]? = some a → Inv s → f (st i s) = some (match stp s a with
   | .inl s' => .inl (st (i + 1) s')
   | .inr r => .inr (bad r))) (hI : ∀ (i : Nat) a s s', l[i]? = some a → Inv s → stp s a = .inl s' → Inv s') (he : ∀ s, f (st l.length s) = some (.inr (fin s))) (s : S) (h0 : Inv s) :
  iter f (st 0 s) = some (match scanL stp s l with
   | .inl s' => fin s'
   | .inr r => bad r) := by
 have key : ∀ (l2 l1 : List A) (s : S), Inv s → l = l1 ++ l2 → iter f (st l1.length s) = some (match scanL stp s l2 with
   | .inl s' => fin s'
   | .inr r => bad r) := by
  intro l2
  induction l2 with
  | nil =>
   intro l1 s _ e
   rw [List.append_nil] at e
   rw [← e]
   exact iter_inr (he s)
  | cons a l2 ih =>
   intro l1 s h0 e
   have hg : l[l1.length]? = some a := by rw [e]; simp
   have := h l1.length a s hg h0
   unfold scanL
   cases hs : stp s a with
   | inl s' =>
    rw [hs] at this
    rw [iter_inl this]
    have := ih (l1 ++ [a]) s' (hI _ _ _ _ hg h0 hs) (by rw [e]; simp)
    rwa [List.length_append, List.length_singleton] at this
   | inr r =>
    rw [hs] at this
    exact iter_inr this
 exact key l [] s h0 rfl
def okL {P A : Type} (q : P → A → Bool) (nxt : A → P) : P → List A → Bool
 | _, [] => true
 | p, a :: l => q p a && okL q nxt (nxt a) l
theorem scan_ok {P A : Type} (q : P → A → Bool) (nxt : A → P) : ∀ (l : List A) (b : Bool) (p : P), ∃ p' : P, scanL (fun (x : Bool × P) a => (Sum.inl (x.1 && q x.2 a, nxt a) : (Bool × P) ⊕ Unit)) (b, p) l = .inl (b && okL q nxt p l, p')
 | [], b, p => ⟨p, by rw [okL, Bool.and_true]; rfl⟩
 | a :: l, b, p => by
  obtain ⟨p', h⟩ := scan_ok q nxt l (b && q p a) (nxt a)
  exact ⟨p', by rw [scanL, okL, ← Bool.and_assoc]; exact h⟩
theorem scan_err {P A : Type} (q : P → A → Bool) (nxt : A → P) : ∀ (l : List A) (p : P), ∃ p' : P, scanL (fun (p : P) a => (bif q p a then Sum.inl (nxt a) else Sum.inr () : P ⊕ Unit)) p l = bif okL q nxt p l then .inl p' else .inr ()
 | [], p => ⟨p, rfl⟩
 | a :: l, p => by
  obtain ⟨p', h⟩ := scan_err q nxt l (nxt a)
  refine ⟨p', ?_⟩
  rw [scanL, okL]
  cases q p a
  ·rfl
  ·simp only [cond_true, Bool.true_and]; exact h
abbrev Snd := Int × Msg × Int × Int
abbrev Hrd := Int × Int × List Int
abbrev RS := Int × List Snd × List Hrd
def okSend (nx p : Int) (s : Snd) : Bool :=
 (decide (p < s.1) && decide (s.1 < nx)) && (s.2.1.2.2.2.2.1 == s.1) && (decide (s.2.2.1 ≥ 0) && decide (s.2.2.1 ≤ 4)) && (decide (s.2.2.2 ≥ 0) && decide (s.2.2.2 ≤ 2199023255552)) && okM s.2.1
def okNo (p x : Int) : Bool := decide (x > p) && decide (x ≤ 1073741824)
def okHrd (p : Int) (h : Hrd) : Bool :=
 decide (h.1 > p) && decide (h.1 ≤ 1073741824) && (decide (h.2.1 ≥ 0) && decide (h.2.1 ≤ 1073741825)) && decide ((h.2.2.length : Int) ≤ 16) && okL okNo (·) h.2.1 h.2.2
def okW (w : RS) : Bool :=
 (decide (w.1 ≥ 1) && decide (w.1 ≤ 1073741824)) && decide ((w.2.1.length : Int) ≤ 64) && decide ((w.2.2.length : Int) ≤ 64) && okL (okSend w.1) (·.1) 0 w.2.1 && okL okHrd (·.1) (-1) w.2.2
def szM (m : Msg) : Prop := m.2.2.2.2.2.2.2.2.1.size ≤ 9223372036854775807 ∧ m.2.2.2.2.2.2.2.2.2.length ≤ 9223372036854775807
def szW (w : RS) : Prop := w.2.1.length ≤ 9223372036854775807 ∧ (∀ s ∈ w.2.1, szM s.2.1) ∧ w.2.2.length ≤ 9223372036854775807 ∧ ∀ h ∈ w.2.2, h.2.2.length ≤ 9223372036854775807
theorem within_eq (a b c : Int) : g_retry_within a b c = some (decide (a ≥ b) && decide (a ≤ c)) := by
 unfold g_retry_within
 by_cases h : a ≥ b
 ·rw [decide_eq_true h]; rfl
 ·rw [decide_eq_false h]; rfl
theorem mem_of_get {A : Type} {l : List A} {i : Nat} {a : A} (h : l[i]? = some a) : a ∈ l := List.mem_of_getElem? h
theorem check_sends {b : Bool} {w : RS} {l : List Snd} (hl : l.length ≤ 9223372036854775807) (hs : ∀ s ∈ l, szM s.2.1) (hw : b = true → 1 ≤ w.1 ∧ w.1 ≤ 1073741824) :
  iter g_retry_Check_r1 (b, 0, l, (l.length : Int), 0, w, ()) = some (b && okL (okSend w.1) (·.1) 0 l, w, ()) := by
 have := iter_scanI (f := g_retry_Check_r1) (fun x : Bool × Int => x.1 = true → (1 ≤ w.1 ∧ w.1 ≤ 1073741824) ∧ 0 ≤ x.2 ∧ x.2 < 1073741824) l (fun i x => (x.1, x.2, l, (l.length : Int), (i : Int), w, ())) (fun (x : Bool × Int) a => (Sum.inl (x.1 && okSend w.1 x.2 a, a.1) : (Bool × Int) ⊕ Unit)) (fun _ => (false, w, ())) (fun x => (x.1, w, ()))
  (fun i a x hi hI => by
   obtain ⟨ok, p⟩ := x
   have hi2 := lt_of_get hi
   have ws : IntKind.i64.wrap ((i : Int) + 1) = ((i + 1 : Nat) : Int) := by rw [wrap_i64 (by omega) (by omega)]; rfl
   have hc := wire_Check_eq (hs a (mem_of_get hi)).1
   cases ok with
   | false => simp (disch := omega) only [g_retry_Check_r1, dT, wT, Int.toNat_natCast, gD hi, cond_false, Option.bind_some, ws, Bool.false_and]
   | true =>
    obtain ⟨⟨w1, w2⟩, p1, p2⟩ := hI rfl
    have p1 : 0 ≤ p := p1
    have p2 : p < 1073741824 := p2
    have wa : IntKind.i64.wrap (p + 1) = p + 1 := wrap_i64 (by omega) (by omega)
    have wb : IntKind.i64.wrap (w.1 - 1) = w.1 - 1 := wrap_i64 (by omega) (by omega)
    simp (disch := omega) only [g_retry_Check_r1, dT, wT, Int.toNat_natCast, gD hi, cond_true, Option.bind_some, ws, Bool.true_and, within_eq, wa, wb, hc]
    have c1 : decide (a.1 ≥ p + 1) = decide (p < a.1) := decide_eq_decide.2 (by omega)
    have c2 : decide (a.1 ≤ w.1 - 1) = decide (a.1 < w.1) := decide_eq_decide.2 (by omega)
    rw [c1, c2, ← ws]
    unfold okSend err
    generalize (decide (p < a.1) && decide (a.1 < w.1)) = b1
    generalize (a.2.1.2.2.2.2.1 == a.1) = b2
    generalize (decide (a.2.2.1 ≥ 0) && decide (a.2.2.1 ≤ 4)) = b3
    generalize (decide (a.2.2.2 ≥ 0) && decide (a.2.2.2 ≤ 2199023255552)) = b4
    generalize okM a.2.1 = b5
    cases b1 <;> cases b2 <;> cases b3 <;> cases b4 <;> cases b5 <;> rfl)
  (fun i a x s' hi hI e => by
   obtain ⟨ok, p⟩ := x
   cases e
   intro ho
   have ho : (ok && okSend w.1 p a) = true := ho
   rw [Bool.and_eq_true] at ho
   obtain ⟨hw', _, _⟩ := hI ho.1
   have h2 := ho.2
   unfold okSend at h2
   simp only [Bool.and_eq_true, decide_eq_true_eq] at h2
   refine ⟨hw', ?_, ?_⟩
   ·show 0 ≤ a.1
    have := (hI ho.1).2.1
    have : 0 ≤ p := this
    omega
   ·show a.1 < 1073741824
    omega)
  (fun s => by simp (disch := omega) only [g_retry_Check_r1, dF]) (b, 0) (fun h => ⟨hw h, Int.le_refl 0, by show (0 : Int) < 1073741824; decide⟩)
 obtain ⟨p', e⟩ := scan_ok (okSend w.1) (·.1) l b 0
 rw [e] at this
 exact this
end Go.Sq
namespace Go.Sq
open Go.Rx
theorem check_had {b : Bool} {a p : Int} {h : List Hrd} {n i : Int} {l : List Int} (hl : l.length ≤ 9223372036854775807) :
  ∃ q, iter g_retry_Check_r2 (b, a, p, h, n, i, l, (l.length : Int), 0, ()) = some (b && okL okNo (·) p l, a, h, n, i, ()) ∧ q = p := by
 have := iter_scan (f := g_retry_Check_r2) l (fun k x => (x.1, a, x.2, h, n, i, l, (l.length : Int), (k : Int), ())) (fun (x : Bool × Int) y => (Sum.inl (x.1 && okNo x.2 y, y) : (Bool × Int) ⊕ Unit)) (fun _ => (false, a, h, n, i, ())) (fun x => (x.1, a, h, n, i, ()))
  (fun k y x hk => by
   obtain ⟨ok, p⟩ := x
   have hk2 := lt_of_get hk
   have ws : IntKind.i64.wrap ((k : Int) + 1) = ((k + 1 : Nat) : Int) := by rw [wrap_i64 (by omega) (by omega)]; rfl
   simp (disch := omega) only [g_retry_Check_r2, dT, wT, Int.toNat_natCast, gD hk]
   rw [← ws]
   unfold okNo
   cases ok <;> cases decide (y > p) <;> rfl)
  (fun s => by simp (disch := omega) only [g_retry_Check_r2, dF]) (b, p)
 obtain ⟨p', e⟩ := scan_ok okNo (·) l b p
 rw [e] at this
 exact ⟨p, this, rfl⟩
theorem check_heard {b : Bool} {l : List Hrd} (hl : l.length ≤ 9223372036854775807) (hs : ∀ s ∈ l, s.2.2.length ≤ 9223372036854775807) :
  iter g_retry_Check_r3 (b, (-1), l, (l.length : Int), 0, ()) = some (b && okL okHrd (·.1) (-1) l, ()) := by
 have := iter_scan (f := g_retry_Check_r3) l (fun i x => (x.1, x.2, l, (l.length : Int), (i : Int), ())) (fun (x : Bool × Int) a => (Sum.inl (x.1 && okHrd x.2 a, a.1) : (Bool × Int) ⊕ Unit)) (fun _ => (false, ())) (fun x => (x.1, ()))
  (fun i a x hi => by
   obtain ⟨ok, p⟩ := x
   have hi2 := lt_of_get hi
   have ws : IntKind.i64.wrap ((i : Int) + 1) = ((i + 1 : Nat) : Int) := by rw [wrap_i64 (by omega) (by omega)]; rfl
   have hh : ∀ b, iter g_retry_Check_r2 (b, a.1, a.2.1, l, (l.length : Int), (i : Int), a.2.2, (a.2.2.length : Int), 0, ()) = some (b && okL okNo (·) a.2.1 a.2.2, a.1, l, (l.length : Int), (i : Int), ()) := by
    intro b
    obtain ⟨_, e, _⟩ := check_had (b := b) (a := a.1) (p := a.2.1) (h := l) (n := l.length) (i := i) (hs a (mem_of_get hi))
    exact e
   simp (disch := omega) only [g_retry_Check_r3, dT, wT, Int.toNat_natCast, gD hi, within_eq, Option.bind_some]
   rw [← ws]
   unfold okHrd
   generalize okL okNo (·) a.2.1 a.2.2 = b5 at *
   generalize (decide (a.2.1 ≥ 0) && decide (a.2.1 ≤ 1073741825)) = b3
   generalize decide ((a.2.2.length : Int) ≤ 16) = b4
   cases ok <;> cases decide (a.1 > p) <;> cases decide (a.1 ≤ 1073741824) <;> cases b3 <;> cases b4 <;> simp only [cond_true, cond_false, Option.bind_some, hh] <;> rfl)
  (fun s => by simp (disch := omega) only [g_retry_Check_r3, dF]) (b, -1)
 obtain ⟨p', e⟩ := scan_ok okHrd (·.1) l b (-1)
 rw [e] at this
 exact this
theorem retry_Check_eq {w : RS} (h : szW w) : g_retry_Check w = some (err (okW w)) := by
 obtain ⟨h1, h2, h3, h4⟩ := h
 have e : ∀ k : Bool × RS × Unit → Option Int, (((g_retry_within w.1 1 1073741824).bind fun y1 => bif y1 then bif (decide ((w.2.1.length : Int) ≤ 64)) then some ((decide ((w.2.2.length : Int) ≤ 64)), w, ()) else some (false, w, ()) else some (false, w, ())) : Option (Bool × RS × Unit)).bind k =
   k ((decide (w.1 ≥ 1) && decide (w.1 ≤ 1073741824)) && decide ((w.2.1.length : Int) ≤ 64) && decide ((w.2.2.length : Int) ≤ 64), w, ()) := by
  intro k
  rw [within_eq, Option.bind_some]
  cases decide (w.1 ≥ 1) && decide (w.1 ≤ 1073741824) <;> cases decide ((w.2.1.length : Int) ≤ 64) <;> rfl
 unfold g_retry_Check okW
 rw [e]
 rw [check_sends h1 h2 (fun hb => by
  simp only [Bool.and_eq_true, decide_eq_true_eq] at hb
  exact hb.1.1), Option.bind_some, check_heard h3 h4, Option.bind_some]
 unfold err
 generalize ((decide (w.1 ≥ 1) && decide (w.1 ≤ 1073741824)) && decide ((w.2.1.length : Int) ≤ 64) && decide ((w.2.2.length : Int) ≤ 64) && okL (okSend w.1) (·.1) 0 w.2.1 && okL okHrd (·.1) (-1) w.2.2) = b
 cases b <;> rfl
theorem r17_sends {w : RS} {l : List Snd} (hl : l.length ≤ 9223372036854775807) (hs : ∀ s ∈ l, szM s.2.1) :
  iter g_r17_Check_r1 (0, l, (l.length : Int), 0, w, ()) = some (bif okL (okSend w.1) (·.1) 0 l then .inl (w, ()) else .inr (1, ())) := by
 have := iter_scan (f := g_r17_Check_r1) l (fun i (p : Int) => (p, l, (l.length : Int), (i : Int), w, ())) (fun (p : Int) a => (bif okSend w.1 p a then Sum.inl a.1 else Sum.inr () : Int ⊕ Unit)) (fun _ => .inr (1, ())) (fun _ => .inl (w, ()))
  (fun i a p hi => by
   have hi2 := lt_of_get hi
   have ws : IntKind.i64.wrap ((i : Int) + 1) = ((i + 1 : Nat) : Int) := by rw [wrap_i64 (by omega) (by omega)]; rfl
   have hc := r15_Check_eq (hs a (mem_of_get hi)).1
   simp (disch := omega) only [g_r17_Check_r1, dT, wT, Int.toNat_natCast, gD hi, hc]
   rw [← ws]
   have c1 : decide (a.1 ≤ p) = !decide (p < a.1) := by rw [← decide_not]; exact decide_eq_decide.2 (by omega)
   have c2 : decide (a.1 ≥ w.1) = !decide (a.1 < w.1) := by rw [← decide_not]; exact decide_eq_decide.2 (by omega)
   have c3 : decide (a.2.2.1 < 0) = !decide (a.2.2.1 ≥ 0) := by rw [← decide_not]; exact decide_eq_decide.2 (by omega)
   have c4 : decide (a.2.2.1 > 4) = !decide (a.2.2.1 ≤ 4) := by rw [← decide_not]; exact decide_eq_decide.2 (by omega)
   have c5 : decide (a.2.2.2 < 0) = !decide (a.2.2.2 ≥ 0) := by rw [← decide_not]; exact decide_eq_decide.2 (by omega)
   have c6 : decide (a.2.2.2 > 2199023255552) = !decide (a.2.2.2 ≤ 2199023255552) := by rw [← decide_not]; exact decide_eq_decide.2 (by omega)
   rw [c1, c2, c3, c4, c5, c6]
   unfold okSend err
   have c7 : (a.2.1.2.2.2.2.1 != a.1) = !(a.2.1.2.2.2.2.1 == a.1) := rfl
   rw [c7]
   generalize decide (p < a.1) = b1
   generalize decide (a.1 < w.1) = b2
   generalize (a.2.1.2.2.2.2.1 == a.1) = b3
   generalize okM a.2.1 = b4
   generalize decide (a.2.2.1 ≥ 0) = b5
   generalize decide (a.2.2.1 ≤ 4) = b6
   generalize decide (a.2.2.2 ≥ 0) = b7
   generalize decide (a.2.2.2 ≤ 2199023255552) = b8
   cases b1; · rfl
   cases b2; · rfl
   cases b3; · rfl
   cases b4
   ·cases b5 <;> cases b6 <;> cases b7 <;> cases b8 <;> rfl
   cases b5; · rfl
   cases b6; · rfl
   cases b7; · rfl
   cases b8 <;> rfl)
  (fun s => by simp (disch := omega) only [g_r17_Check_r1, dF]) 0
 obtain ⟨p', e⟩ := scan_err (okSend w.1) (·.1) l 0
 rw [e] at this
 refine Eq.trans this ?_
 cases okL (okSend w.1) (·.1) 0 l <;> rfl
theorem r17_had {a p : Int} {h : List Hrd} {n i : Int} {l : List Int} (hl : l.length ≤ 9223372036854775807) :
  iter g_r17_Check_r2 (a, p, h, n, i, l, (l.length : Int), 0, ()) = some (bif okL okNo (·) p l then .inl (a, h, n, i, ()) else .inr (1, ())) := by
 have := iter_scan (f := g_r17_Check_r2) l (fun k (x : Int) => (a, x, h, n, i, l, (l.length : Int), (k : Int), ())) (fun (x : Int) y => (bif okNo x y then Sum.inl y else Sum.inr () : Int ⊕ Unit)) (fun _ => .inr (1, ())) (fun x => .inl (a, h, n, i, ()))
  (fun k y x hk => by
   have hk2 := lt_of_get hk
   have ws : IntKind.i64.wrap ((k : Int) + 1) = ((k + 1 : Nat) : Int) := by rw [wrap_i64 (by omega) (by omega)]; rfl
   simp (disch := omega) only [g_r17_Check_r2, dT, wT, Int.toNat_natCast, gD hk]
   rw [← ws]
   have c1 : decide (y ≤ x) = !decide (y > x) := by rw [← decide_not]; exact decide_eq_decide.2 (by omega)
   have c2 : decide (y > 1073741824) = !decide (y ≤ 1073741824) := by rw [← decide_not]; exact decide_eq_decide.2 (by omega)
   rw [c1, c2]
   unfold okNo
   cases decide (y > x) <;> cases decide (y ≤ 1073741824) <;> rfl)
  (fun s => by simp (disch := omega) only [g_r17_Check_r2, dF]) p
 obtain ⟨p', e⟩ := scan_err okNo (·) l p
 rw [e] at this
 refine Eq.trans this ?_
 cases okL okNo (·) p l <;> rfl
theorem r17_heard {l : List Hrd} (hl : l.length ≤ 9223372036854775807) (hs : ∀ s ∈ l, s.2.2.length ≤ 9223372036854775807) :
  iter g_r17_Check_r3 ((-1), l, (l.length : Int), 0, ()) = some (bif okL okHrd (·.1) (-1) l then .inl () else .inr (1, ())) := by
 have := iter_scan (f := g_r17_Check_r3) l (fun i (x : Int) => (x, l, (l.length : Int), (i : Int), ())) (fun (x : Int) a => (bif okHrd x a then Sum.inl a.1 else Sum.inr () : Int ⊕ Unit)) (fun _ => .inr (1, ())) (fun x => .inl ())
  (fun i a p hi => by
   have hi2 := lt_of_get hi
   have ws : IntKind.i64.wrap ((i : Int) + 1) = ((i + 1 : Nat) : Int) := by rw [wrap_i64 (by omega) (by omega)]; rfl
   have hh := r17_had (a := a.1) (p := a.2.1) (h := l) (n := l.length) (i := i) (hs a (mem_of_get hi))
   simp (disch := omega) only [g_r17_Check_r3, dT, wT, Int.toNat_natCast, gD hi]
   rw [← ws]
   have c1 : decide (a.1 ≤ p) = !decide (a.1 > p) := by rw [← decide_not]; exact decide_eq_decide.2 (by omega)
   have c2 : decide (a.1 > 1073741824) = !decide (a.1 ≤ 1073741824) := by rw [← decide_not]; exact decide_eq_decide.2 (by omega)
   have c3 : decide (a.2.1 < 0) = !decide (a.2.1 ≥ 0) := by rw [← decide_not]; exact decide_eq_decide.2 (by omega)
   have c4 : decide (a.2.1 > 1073741825) = !decide (a.2.1 ≤ 1073741825) := by rw [← decide_not]; exact decide_eq_decide.2 (by omega)
   have c5 : decide ((a.2.2.length : Int) > 16) = !decide ((a.2.2.length : Int) ≤ 16) := by rw [← decide_not]; exact decide_eq_decide.2 (by omega)
   rw [c1, c2, c3, c4, c5]
   unfold okHrd
   generalize okL okNo (·) a.2.1 a.2.2 = b5 at *
   generalize decide (a.2.1 ≥ 0) = b3
   generalize decide (a.2.1 ≤ 1073741825) = b6
   generalize decide ((a.2.2.length : Int) ≤ 16) = b4
   cases decide (a.1 > p) <;> cases decide (a.1 ≤ 1073741824) <;> cases b3 <;> cases b6 <;> cases b4 <;> cases b5 <;> simp only [cond_true, cond_false, Option.bind_some, Bool.not_true, Bool.not_false, hh] <;> rfl)
  (fun s => by simp (disch := omega) only [g_r17_Check_r3, dF]) (-1)
 obtain ⟨p', e⟩ := scan_err okHrd (·.1) l (-1)
 rw [e] at this
 refine Eq.trans this ?_
 cases okL okHrd (·.1) (-1) l <;> rfl
theorem r17_Check_eq {w : RS} (h : szW w) : g_r17_Check w = some (err (okW w)) := by
 obtain ⟨h1, h2, h3, h4⟩ := h
 have hs := r17_sends (w := w) h1 h2
 have hh := r17_heard h3 h4
 unfold g_r17_Check okW
 have c1 : decide (w.1 < 1) = !decide (w.1 ≥ 1) := by rw [← decide_not]; exact decide_eq_decide.2 (by omega)
 have c2 : decide (w.1 > 1073741824) = !decide (w.1 ≤ 1073741824) := by rw [← decide_not]; exact decide_eq_decide.2 (by omega)
 have c3 : decide ((w.2.1.length : Int) > 64) = !decide ((w.2.1.length : Int) ≤ 64) := by rw [← decide_not]; exact decide_eq_decide.2 (by omega)
 have c4 : decide ((w.2.2.length : Int) > 64) = !decide ((w.2.2.length : Int) ≤ 64) := by rw [← decide_not]; exact decide_eq_decide.2 (by omega)
 rw [c1, c2, c3, c4]
 generalize decide (w.1 ≥ 1) = b1
 generalize decide (w.1 ≤ 1073741824) = b2
 generalize decide ((w.2.1.length : Int) ≤ 64) = b3
 generalize decide ((w.2.2.length : Int) ≤ 64) = b4
 generalize okL (okSend w.1) (·.1) 0 w.2.1 = b5 at *
 generalize okL okHrd (·.1) (-1) w.2.2 = b6 at *
 cases b1; · rfl
 cases b2; · rfl
 cases b3; · rfl
 cases b4; · rfl
 simp only [cond_true, cond_false, Option.bind_some, Bool.not_true, hs]
 cases b5; · rfl
 simp only [cond_true, Option.bind_some, hh]
 cases b6 <;> rfl
end Go.Sq
namespace Go.Sq
open Go.Rx
theorem clone_bytes {l : List Int} (h : l.length ≤ 1000) : g_slices_Clone_Sbyte_byte l = some l := by
 unfold g_slices_Clone_Sbyte_byte
 rw [List.nil_append, rT (by omega)]
theorem clone_ints {l : List Int} (h : l.length ≤ 1000) : g_slices_Clone_Sint_int l = some l := by
 unfold g_slices_Clone_Sint_int
 rw [List.nil_append, rT (by omega)]
theorem clone_sends {l : List Snd} (h : l.length ≤ 1000) : g_slices_Clone_Sapi_Send_api_Send l = some l := by
 unfold g_slices_Clone_Sapi_Send_api_Send
 rw [List.nil_append, rT (by omega)]
theorem clone_heard {l : List Hrd} (h : l.length ≤ 1000) : g_slices_Clone_Sapi_Heard_api_Heard l = some l := by
 unfold g_slices_Clone_Sapi_Heard_api_Heard
 rw [List.nil_append, rT (by omega)]
theorem letter_eq {m : Msg} (h : m.2.2.2.2.2.2.2.2.2.length ≤ 1000) : g_retry_letter m = some m := by
 unfold g_retry_letter
 rw [clone_bytes h, Option.bind_some]
theorem set_sameQ {A : Type} {l : List A} {i : Nat} {a : A} (h : l[i]? = some a) : l.set i a = l := by
 obtain ⟨h1, h2⟩ := List.getElem?_eq_some_iff.1 h
 rw [← h2, List.set_getElem_self]
def fewW (w : RS) : Prop := w.2.1.length ≤ 64 ∧ (∀ s ∈ w.2.1, s.2.1.2.2.2.2.2.2.2.2.2.length ≤ 64) ∧ w.2.2.length ≤ 64 ∧ ∀ h ∈ w.2.2, h.2.2.length ≤ 16
theorem okL_mem {P A : Type} {q : P → A → Bool} {nxt : A → P} : ∀ {l : List A} {p : P}, okL q nxt p l = true → ∀ a ∈ l, ∃ p', q p' a = true
 | a :: l, p, h, x, hx => by
  rw [okL, Bool.and_eq_true] at h
  rcases List.mem_cons.1 hx with rfl | hx
  ·exact ⟨p, h.1⟩
  ·exact okL_mem h.2 x hx
theorem okSend_M {nx p : Int} {s : Snd} (h : okSend nx p s = true) : p < s.1 ∧ s.1 < nx ∧ s.2.1.2.2.2.2.1 = s.1 ∧ okM s.2.1 = true := by
 unfold okSend at h
 simp only [Bool.and_eq_true, decide_eq_true_eq, beq_iff_eq] at h
 exact ⟨h.1.1.1.1.1, h.1.1.1.1.2, h.1.1.1.2, h.2⟩
theorem okM_few {m : Msg} (h : okM m = true) : m.2.2.2.2.2.2.2.2.2.length ≤ 64 ∧ 1 ≤ m.1 ∧ m.1 ≤ 15 := by
 unfold okM at h
 simp only [Bool.and_eq_true, decide_eq_true_eq] at h
 obtain ⟨⟨⟨⟨⟨⟨⟨⟨⟨⟨⟨a, b⟩, c⟩, _⟩, _⟩, _⟩, _⟩, _⟩, _⟩, _⟩, _⟩, _⟩ := h
 omega
theorem okW_few {w : RS} (h : okW w = true) : fewW w := by
 unfold okW at h
 simp only [Bool.and_eq_true, decide_eq_true_eq] at h
 obtain ⟨⟨⟨⟨_, h1⟩, h2⟩, h3⟩, h4⟩ := h
 refine ⟨by omega, fun s hs => ?_, by omega, fun x hx => ?_⟩
 ·obtain ⟨p, hp⟩ := okL_mem h3 s hs
  exact (okM_few (okSend_M hp).2.2.2).1
 ·obtain ⟨p, hp⟩ := okL_mem h4 x hx
  unfold okHrd at hp
  simp only [Bool.and_eq_true, decide_eq_true_eq] at hp
  have := hp.1.2
  omega
theorem rowned_eq {w : RS} (h : fewW w) : g_retry_owned w = some w := by
 obtain ⟨h1, h2, h3, h4⟩ := h
 have l1 : iter g_retry_owned_r1 ((w.2.1.length : Int), 0, (w.1, (w.2.1, w.2.2)), (0, ([], [])), ()) = some (w, (0, ([], [])), ()) :=
  iter_count (fun i => ((w.2.1.length : Int), (i : Int), (w.1, (w.2.1, w.2.2)), (0, ([], [])), ())) w.2.1.length (fun i hi => by
   obtain ⟨a, ha⟩ : ∃ a, w.2.1[i]? = some a := ⟨_, List.getElem?_eq_getElem hi⟩
   have ws : IntKind.i64.wrap ((i : Int) + 1) = ((i + 1 : Nat) : Int) := by rw [wrap_i64 (by omega) (by omega)]; rfl
   have hl := letter_eq (m := a.2.1) (by have := h2 a (mem_of_get ha); omega)
   simp (disch := omega) only [g_retry_owned_r1, dT, wT, Int.toNat_natCast, gD ha, hl, Option.bind_some, ws]
   rw [set_sameQ ha]) (by simp (disch := omega) only [g_retry_owned_r1, dF])
 have l2 : iter g_retry_owned_r2 ((w.2.2.length : Int), 0, w, (0, ([], [])), ()) = some (w, (0, ([], [])), ()) :=
  iter_count (fun i => ((w.2.2.length : Int), (i : Int), w, (0, ([], [])), ())) w.2.2.length (fun i hi => by
   obtain ⟨a, ha⟩ : ∃ a, w.2.2[i]? = some a := ⟨_, List.getElem?_eq_getElem hi⟩
   have ws : IntKind.i64.wrap ((i : Int) + 1) = ((i + 1 : Nat) : Int) := by rw [wrap_i64 (by omega) (by omega)]; rfl
   have hl := clone_ints (l := a.2.2) (by have := h4 a (mem_of_get ha); omega)
   simp (disch := omega) only [g_retry_owned_r2, dT, wT, Int.toNat_natCast, gD ha, hl, Option.bind_some, ws]
   rw [set_sameQ ha]) (by simp (disch := omega) only [g_retry_owned_r2, dF])
 unfold g_retry_owned
 rw [clone_sends (by omega), Option.bind_some, clone_heard (by omega), Option.bind_some, l1, Option.bind_some, l2]
 rfl
theorem contains_eq {l : List Int} {x : Int} (h : l.length ≤ 1000) : g_slices_Contains_Sint_int l x = some (l.contains x) := by
 have key : ∀ (l2 l1 : List Int), l = l1 ++ l2 → ∃ r, iter g_slices_Index_Sint_int_r1 (l, x, (l.length : Int), (l1.length : Int), ()) = some r ∧ (match r with
  | .inl _ => l2.contains x = false
  | .inr (k, _) => 0 ≤ k ∧ l2.contains x = true) := by
  intro l2
  induction l2 with
  | nil =>
   intro l1 e
   rw [List.append_nil] at e
   subst e
   exact ⟨.inl (), iter_inr (by simp (disch := omega) only [g_slices_Index_Sint_int_r1, dF]), rfl⟩
  | cons a l2 ih =>
   intro l1 e
   have hg : l[l1.length]? = some a := by rw [e]; simp
   have hl := lt_of_get hg
   by_cases hx : x = a
   ·refine ⟨.inr ((l1.length : Int), ()), iter_inr (by simp (disch := omega) only [g_slices_Index_Sint_int_r1, dT, wT, Int.toNat_natCast, gD hg, eT]), by omega, ?_⟩
    rw [hx]; simp
   ·obtain ⟨r, h1, h2⟩ := ih (l1 ++ [a]) (by rw [e]; simp)
    have ws : IntKind.i64.wrap ((l1.length : Int) + 1) = (((l1 ++ [a]).length : Nat) : Int) := by rw [wrap_i64 (by omega) (by omega), List.length_append]; rfl
    refine ⟨r, (iter_inl (by simp (disch := omega) only [g_slices_Index_Sint_int_r1, dT, wT, Int.toNat_natCast, gD hg, eF, ws])).trans h1, ?_⟩
    have : (a :: l2).contains x = l2.contains x := by
     rw [List.contains_cons]
     have : (x == a) = false := beq_false_of_ne hx
     rw [this, Bool.false_or]
    rw [this]
    exact h2
 obtain ⟨r, h1, h2⟩ := key l [] rfl
 have h1 : iter g_slices_Index_Sint_int_r1 (l, x, (l.length : Int), 0, ()) = some r := h1
 unfold g_slices_Contains_Sint_int g_slices_Index_Sint_int
 rw [h1]
 match r, h2 with
 | .inl (), h2 => simp only [Option.bind_some, h2]; rfl
 | .inr (k, ()), h2 => simp only [Option.bind_some, h2.2, decide_eq_true h2.1, ge_iff_le]
def waitP (ks : List Int) (s : Snd) : Bool := ks.length == 0 || ks.contains s.2.1.1
def waitL (ks : List Int) (l : List Snd) : List Int := (l.filter (waitP ks)).map (·.1)
theorem waitL_le (ks : List Int) (l : List Snd) : (waitL ks l).length ≤ l.length := by unfold waitL; rw [List.length_map]; exact List.length_filter_le _ _
theorem waitL_take {ks : List Int} {l : List Snd} {i : Nat} {a : Snd} (h : l[i]? = some a) : waitL ks (l.take (i + 1)) = waitL ks (l.take i) ++ (bif waitP ks a then [a.1] else []) := by
 rw [List.take_add_one, h]
 unfold waitL
 rw [List.filter_append, List.map_append]
 congr 1
 cases hw : waitP ks a <;> simp [hw]
theorem Waiting_eq {w : RS} (hz : szW w) (h : okW w = true) {ks : List Int} (hk : ks.length ≤ 1000) : g_retry_Waiting w ks = some (waitL ks w.2.1) := by
 have hf := okW_few h
 have : iter g_retry_Waiting_r1 (ks, [], w.2.1, (w.2.1.length : Int), 0, ()) = some (waitL ks w.2.1, ()) :=
  iter_count (fun i => (ks, waitL ks (w.2.1.take i), w.2.1, (w.2.1.length : Int), (i : Int), ())) w.2.1.length (fun i hi => by
   obtain ⟨a, ha⟩ : ∃ a, w.2.1[i]? = some a := ⟨_, List.getElem?_eq_getElem hi⟩
   have h64 := hf.1
   have ws : IntKind.i64.wrap ((i : Int) + 1) = ((i + 1 : Nat) : Int) := by rw [wrap_i64 (by omega) (by omega)]; rfl
   have hle := waitL_le ks (w.2.1.take i)
   rw [List.length_take] at hle
   simp (disch := omega) only [g_retry_Waiting_r1, dT, wT, Int.toNat_natCast, gD ha, contains_eq hk, Option.bind_some]
   rw [waitL_take ha, ← ws]
   have hr : ∀ x y : Option ((List Int × List Int × (List Snd) × Int × Int × Unit)), (bif room 8 (waitL ks (w.2.1.take i) ++ [a.1]).length then x else y) = x := fun x y => rT (by rw [List.length_append, List.length_singleton]; omega)
   have hr : room 8 (waitL ks (w.2.1.take i) ++ [a.1]).length = true := room_iff.2 (by rw [List.length_append, List.length_singleton]; omega)
   unfold waitP
   have e0 : ((ks.length : Int) == 0) = (ks.length == 0) := by
    by_cases h0 : ks.length = 0
    ·rw [h0]; rfl
    ·rw [beq_false_of_ne h0]; exact beq_false_of_ne (by omega)
   rw [e0]
   cases ks.length == 0 <;> cases hc : ks.contains a.2.1.1 <;> simp only [cond_true, cond_false, Option.bind_some, hr, Bool.or_true, Bool.or_false, List.append_nil]) (by
    rw [List.take_length]
    simp (disch := omega) only [g_retry_Waiting_r1, dF])
 unfold g_retry_Waiting
 rw [retry_Check_eq hz, h]
 have this' : iter g_retry_Waiting_r1 (ks, [], w.2.1, (w.2.1.length : Int), 0, ()) = some (waitL ks w.2.1, ()) := this
 show (bif ((0 : Int) != 0) then some [] else _) = _
 rw [nF rfl, this']
 rfl
def noM (m : Msg) (n : Int) : Msg := (m.1, m.2.1, m.2.2.1, m.2.2.2.1, n, m.2.2.2.2.2)
def zWq : RS := (0, [], [])
def zM : Msg := (0, 0, 0, 0, 0, 0, 0, 0, ByteArray.empty, [])
def postW (w : RS) (m : Msg) (t : Int) : RS × Msg × Int :=
 bif !okM (noM m w.1) then (zWq, zM, 1) else
 bif w.1 == 1073741824 || decide ((w.2.1.length : Int) ≥ 64) then (zWq, zM, 2) else
 ((w.1 + 1, w.2.1 ++ [(w.1, noM m w.1, 4, t + 5)], w.2.2), noM m w.1, 0)
theorem Post_eq {w : RS} {m : Msg} {t : Int} (hz : szW w) (hm : szM m) (h : okW w = true) (ht : 0 ≤ t) (ht2 : t ≤ 1099511627776) : g_retry_Post w m t = some (postW w m t) := by
 have hf := okW_few h
 have h1 : g_retry_timely w t = some true := by
  unfold g_retry_timely
  rw [within_eq, decide_eq_true (by omega), decide_eq_true (by omega), retry_Check_eq hz, h]
  rfl
 have hc : g_wire_Check (m.1, (m.2.1, (m.2.2.1, (m.2.2.2.1, (w.1, m.2.2.2.2.2))))) = some (err (okM (noM m w.1))) := wire_Check_eq (m := noM m w.1) hm.1
 have hw1 : 1 ≤ w.1 ∧ w.1 ≤ 1073741824 := by
  unfold okW at h
  simp only [Bool.and_eq_true, decide_eq_true_eq] at h
  exact h.1.1.1.1
 unfold g_retry_Post postW
 rw [h1]
 simp only [Option.bind_some, Bool.not_true, cond_false, hc]
 cases ho : okM (noM m w.1) with
 | false => rfl
 | true =>
  have e0 : (err true != 0) = false := rfl
  simp only [e0, cond_false, Bool.not_true]
  have hl := letter_eq (m := noM m w.1) (by have := (okM_few ho).1; omega)
  have hl : g_retry_letter (m.1, (m.2.1, (m.2.2.1, (m.2.2.2.1, (w.1, m.2.2.2.2.2))))) = some (noM m w.1) := hl
  by_cases ha : w.1 = 1073741824
  ·simp only [eT ha, Option.bind_some, cond_true, beq_iff_eq.2 ha, Bool.true_or]; rfl
  ·simp only [eF ha, Option.bind_some, beq_false_of_ne ha, Bool.false_or]
   by_cases hb : (w.2.1.length : Int) ≥ 64
   ·simp only [cond_false, Option.bind_some, decide_eq_true hb, cond_true]; rfl
   ·simp only [cond_false, Option.bind_some, decide_eq_false hb]
    have hr : room 128 (w.2.1 ++ [(w.1, (noM m w.1, (4, t + 5)))]).length = true := room_iff.2 (by rw [List.length_append, List.length_singleton]; omega)
    simp only [rowned_eq hf, Option.bind_some, hl, hr, cond_true, wrap_i64 (n := t + 5) (by omega) (by omega), wrap_i64 (n := w.1 + 1) (by omega) (by omega)]
end Go.Sq
namespace Go.Sq
open Go.Rx
theorem get_of_drop {A : Type} {l' l : List A} {i : Nat} {a : A} (h : l'.drop i = l.drop i) (hi : l[i]? = some a) : l'[i]? = some a := by
 have e1 : (l'.drop i)[0]? = l'[i]? := by simp
 have e2 : (l.drop i)[0]? = l[i]? := by simp
 rw [← e1, h, e2, hi]
theorem drop_succ_of {A : Type} {l' l : List A} {i : Nat} (h : l'.drop i = l.drop i) : l'.drop (i + 1) = l.drop (i + 1) := by
 have := congrArg (List.drop 1) h
 rwa [List.drop_drop, List.drop_drop] at this
theorem take_succ_of {A : Type} {l : List A} {i : Nat} {a : A} (h : l[i]? = some a) : l.take (i + 1) = l.take i ++ [a] := by
 rw [List.take_add_one, h]; rfl
theorem compact_step {A : Type} {l' l K : List A} {wr i : Nat} {a : A} (hi : l[i]? = some a) (hwr : wr ≤ i) (hlen : l'.length = l.length) (ht : l'.take wr = K) (hd : l'.drop i = l.drop i) :
  (l'.set wr a).take (wr + 1) = K ++ [a] ∧ (l'.set wr a).drop (i + 1) = l.drop (i + 1) ∧ (l'.set wr a).length = l.length := by
 have hl := lt_of_get hi
 refine ⟨?_, ?_, by rw [List.length_set, hlen]⟩
 ·have hg : (l'.set wr a)[wr]? = some a := by rw [List.getElem?_set_self (by omega)]
  rw [take_succ_of hg, List.take_set_of_le (Nat.le_refl wr), ht]
 ·rw [List.drop_set_of_lt (by omega)]
  exact drop_succ_of hd
theorem compact {l : List Snd} {n : Int} (hl : l.length ≤ 1000) {i0 : Nat} (hi0 : i0 ≤ l.length) :
  ∀ (k : Nat) (l' : List Snd) (wr i : Nat), i + k = l.length → wr ≤ i → l'.length = l.length → l'.take wr = (l.take i).filter (fun s => !(s.1 == n)) → l'.drop i = l.drop i →
   ∃ (r : List Snd) (wr' : Nat), iter g_retry_Answered_r2 (l', (wr : Int), (i : Int), n, ()) = some (r, (wr' : Int), n, ()) ∧ r.length = l.length ∧ wr' ≤ l.length ∧ r.take wr' = l.filter (fun s => !(s.1 == n))
 | 0, l', wr, i, hk, hwr, hlen, ht, hd => by
  have : i = l.length := by omega
  subst this
  refine ⟨l', wr, iter_inr (by simp (disch := omega) only [g_retry_Answered_r2, dF]), hlen, hwr, by rw [ht, List.take_length]⟩
 | k + 1, l', wr, i, hk, hwr, hlen, ht, hd => by
  obtain ⟨a, ha⟩ : ∃ a, l[i]? = some a := ⟨_, List.getElem?_eq_getElem (by omega)⟩
  have ha' := get_of_drop hd ha
  have ws : IntKind.i64.wrap ((i : Int) + 1) = ((i + 1 : Nat) : Int) := by rw [wrap_i64 (by omega) (by omega)]; rfl
  have ww : IntKind.i64.wrap ((wr : Int) + 1) = ((wr + 1 : Nat) : Int) := by rw [wrap_i64 (by omega) (by omega)]; rfl
  cases he : (a.1 == n) with
  | true =>
   have hs : g_retry_Answered_r2 (l', (wr : Int), (i : Int), n, ()) = some (.inl (l', (wr : Int), ((i + 1 : Nat) : Int), n, ())) := by
    simp (disch := omega) only [g_retry_Answered_r2, dT, wT, Int.toNat_natCast, gD ha', he, Bool.not_true, cond_false, Option.bind_some, ws]
   rw [iter_inl hs]
   refine compact hl hi0 k l' wr (i + 1) (by omega) (by omega) hlen ?_ (drop_succ_of hd)
   rw [take_succ_of ha, List.filter_append, ht]
   simp [he]
  | false =>
   have hs : g_retry_Answered_r2 (l', (wr : Int), (i : Int), n, ()) = some (.inl (l'.set wr a, ((wr + 1 : Nat) : Int), ((i + 1 : Nat) : Int), n, ())) := by
    simp (disch := omega) only [g_retry_Answered_r2, dT, wT, Int.toNat_natCast, gD ha', he, Bool.not_false, cond_true, Option.bind_some, ws, ww]
   obtain ⟨c1, c2, c3⟩ := compact_step ha hwr hlen ht hd
   rw [iter_inl hs]
   refine compact hl hi0 k _ (wr + 1) (i + 1) (by omega) (by omega) c3 ?_ c2
   rw [c1, take_succ_of ha, List.filter_append]
   simp [he]
theorem find_none {l : List Snd} {n : Int} (hl : l.length ≤ 1000) (h : ∀ s ∈ l, (s.1 == n) = false) : iter g_retry_Answered_r1 (l, (l.length : Int), 0, n, ()) = some (.inl (l, n, ())) :=
 iter_count (fun i => (l, (l.length : Int), (i : Int), n, ())) l.length (fun i hi => by
  obtain ⟨a, ha⟩ : ∃ a, l[i]? = some a := ⟨_, List.getElem?_eq_getElem hi⟩
  have ws : IntKind.i64.wrap ((i : Int) + 1) = ((i + 1 : Nat) : Int) := by rw [wrap_i64 (by omega) (by omega)]; rfl
  simp (disch := omega) only [g_retry_Answered_r1, dT, wT, Int.toNat_natCast, gD ha, h a (mem_of_get ha), cond_false, ws]) (by simp (disch := omega) only [g_retry_Answered_r1, dF])
theorem find_some {l l1 l2 : List Snd} {a : Snd} {n : Int} (e : l = l1 ++ a :: l2) (hl : l.length ≤ 1000) (h : ∀ s ∈ l1, (s.1 == n) = false) (ha : (a.1 == n) = true) :
  iter g_retry_Answered_r1 (l, (l.length : Int), 0, n, ()) = some (.inr (l, (l1.length : Int), n, ())) := by
 have hlen : l.length = l1.length + (l2.length + 1) := by rw [e, List.length_append, List.length_cons]
 refine iter_count (fun i => (l, (l.length : Int), (i : Int), n, ())) l1.length (fun i hi => ?_) ?_
 ·obtain ⟨b, hb⟩ : ∃ b, l1[i]? = some b := ⟨_, List.getElem?_eq_getElem hi⟩
  have hb2 : l[i]? = some b := by rw [e, List.getElem?_append_left hi, hb]
  have ws : IntKind.i64.wrap ((i : Int) + 1) = ((i + 1 : Nat) : Int) := by rw [wrap_i64 (by omega) (by omega)]; rfl
  simp (disch := omega) only [g_retry_Answered_r1, dT, wT, Int.toNat_natCast, gD hb2, h b (mem_of_get hb), cond_false, ws]
 ·have hb2 : l[l1.length]? = some a := by rw [e]; simp
  simp (disch := omega) only [g_retry_Answered_r1, dT, wT, Int.toNat_natCast, gD hb2, ha, cond_true]
theorem split_first {A : Type} (p : A → Bool) : ∀ l : List A, (∀ s ∈ l, p s = false) ∨ ∃ l1 a l2, l = l1 ++ a :: l2 ∧ (∀ s ∈ l1, p s = false) ∧ p a = true
 | [] => .inl fun _ h => by cases h
 | a :: l => by
  cases ha : p a with
  | true => exact .inr ⟨[], a, l, rfl, (fun _ h => by cases h), ha⟩
  | false =>
   rcases split_first p l with h | ⟨l1, b, l2, e, h1, h2⟩
   ·left
    intro s hs
    rcases List.mem_cons.1 hs with rfl | hs
    ·exact ha
    ·exact h s hs
   ·refine .inr ⟨a :: l1, b, l2, by rw [e]; rfl, ?_, h2⟩
    intro s hs
    rcases List.mem_cons.1 hs with rfl | hs
    ·exact ha
    ·exact h1 s hs
def answerW (w : RS) (n : Int) : RS := (w.1, w.2.1.filter (fun s => !(s.1 == n)), w.2.2)
theorem copyL_take {A : Type} (l z : List A) (i : Nat) (hi : i ≤ l.length) : (copyL l i z).take i = l.take i := by
 unfold copyL
 exact List.take_left' (by rw [List.length_take]; omega)
theorem copyL_len {A : Type} (l z : List A) (i : Nat) (hi : i + z.length = l.length) : (copyL l i z).length = l.length := by
 unfold copyL
 simp only [List.length_append, List.length_take, List.length_drop]; omega
theorem Answered_eq {w : RS} {n : Int} (hz : szW w) (h : okW w = true) : g_retry_Answered w n = some (answerW w n, decide ((answerW w n).2.1.length < w.2.1.length), 0) := by
 have hf := okW_few h
 have h64 := hf.1
 unfold g_retry_Answered
 rw [retry_Check_eq hz, h, Option.bind_some]
 rw [show (err true != 0) = false from rfl, cond_false, rowned_eq hf, Option.bind_some]
 rcases split_first (fun s : Snd => s.1 == n) w.2.1 with h1 | ⟨l1, a, l2, e, h1, h2⟩
 ·have ef : w.2.1.filter (fun s => !(s.1 == n)) = w.2.1 := List.filter_eq_self.2 fun s hs => by rw [h1 s hs]; rfl
  have ea : answerW w n = w := by unfold answerW; rw [ef]
  simp only [find_none (by omega) h1, Option.bind_some]
  rw [ea]
  simp only [beq_self_eq_true, cond_true, Option.bind_some]
  rw [decide_eq_false (Int.lt_irrefl _), decide_eq_false (Nat.lt_irrefl _)]
 ·have hlen : w.2.1.length = l1.length + (l2.length + 1) := by rw [e, List.length_append, List.length_cons]
  have ws : IntKind.i64.wrap ((l1.length : Int) + 1) = ((l1.length + 1 : Nat) : Int) := by rw [wrap_i64 (by omega) (by omega)]; rfl
  have hb2 : w.2.1[l1.length]? = some a := by rw [e]; simp
  obtain ⟨r, wr, c1, c2, c3, c4⟩ := compact (l := w.2.1) (n := n) (by omega) (i0 := 0) (by omega) l2.length w.2.1 l1.length (l1.length + 1) (by omega) (by omega) rfl (by
   rw [take_succ_of hb2, List.filter_append, e, List.take_left]
   have : l1.filter (fun s => !(s.1 == n)) = l1 := List.filter_eq_self.2 fun s hs => by rw [h1 s hs]; rfl
   rw [this]; simp [h2]) rfl
  simp only [find_some e (by omega) h1 h2, Option.bind_some, eF (x := (l1.length : Int)) (y := -1) (by omega), ws, c1]
  have hcl := copyL_len r (List.replicate (((r.length : Int)).toNat - ((wr : Int)).toNat) ((0, ((0, (0, (0, (0, (0, (0, (0, (0, (ByteArray.empty, []))))))))), (0, 0))) : Snd)) wr (by rw [List.length_replicate]; omega)
  have hct := copyL_take r (List.replicate (((r.length : Int)).toNat - ((wr : Int)).toNat) ((0, ((0, (0, (0, (0, (0, (0, (0, (0, (ByteArray.empty, []))))))))), (0, 0))) : Snd)) wr (by omega)
  simp (disch := omega) only [gT, Int.toNat_natCast] at *
  simp only [Option.bind_some, List.drop_zero, Nat.sub_zero, hct, c4]
  have e3 : decide (((w.2.1.filter (fun s => !(s.1 == n))).length : Int) < (w.2.1.length : Int)) = decide ((w.2.1.filter (fun s => !(s.1 == n))).length < w.2.1.length) := decide_eq_decide.2 Int.ofNat_lt
  rw [e3]; rfl
end Go.Sq
namespace Go.Sq
open Go.Rx
def exN : ByteArray := ByteArray.mk #[97]
theorem exN_name : nameP exN = true := by
 unfold nameP
 have h1 : exN.size = 1 := rfl
 have h2 : by8 exN 0 = 97 := rfl
 rw [runes_step (by omega) (by rw [fst_low (by omega)]; decide), fst_low (by omega)]
 rw [runes_nil (by rw [sfx_size]; omega)]
 rw [h2]; rfl
def exM : Msg := (1, 0, 0, 0, 1, 0, 0, 0, exN, [])
theorem exM_ok : okM exM = true := by
 unfold okM
 have : nameP exM.2.2.2.2.2.2.2.2.1 = true := exN_name
 rw [this]; rfl
theorem sz_one (x y t u : Int) : szW (x, [(y, exM, t, u)], []) := ⟨by show 1 ≤ _; decide, by
 intro s hs
 rcases List.mem_singleton.1 hs with rfl
 exact ⟨by show exN.size ≤ _; decide, by show ([] : List Int).length ≤ _; decide⟩, Nat.zero_le _, fun _ h => by cases h⟩
theorem ok_one {t u : Int} (h1 : 0 ≤ t) (h2 : t ≤ 4) (h3 : 0 ≤ u) (h4 : u ≤ 1000) : okW (2, [(1, exM, t, u)], []) = true := by
 unfold okW okL okL okSend
 rw [exM_ok]
 simp only [decide_eq_true (show t ≥ 0 from h1), decide_eq_true h2, decide_eq_true (show u ≥ 0 from h3), decide_eq_true (show u ≤ 2199023255552 by omega)]
 rfl
theorem live17 : g_law17_live = some true := by
 have n1 : g_retry_New = some (1, [], []) := rfl
 have p1 : g_retry_Post (1, [], []) (1, 0, 0, 0, 0, 0, 0, 0, exN, []) 10 = some ((2, [(1, exM, 4, 15)], []), exM, 0) := by
  rw [Post_eq (by exact ⟨by decide, (fun _ h => by cases h), by decide, (fun _ h => by cases h)⟩) ⟨by show exN.size ≤ _; decide, by show ([] : List Int).length ≤ _; decide⟩ (by rfl) (by decide) (by decide)]
  unfold postW
  have : okM (noM (1, 0, 0, 0, 0, 0, 0, 0, exN, []) 1) = true := exM_ok
  rw [this]; rfl
 have t1 : g_retry_Tick (2, [(1, exM, 4, 15)], []) 15 = some ((2, [(1, exM, 3, 20)], []), [exM], [], 0) := by
  have e0 : g_retry_timely (2, [(1, exM, 4, 15)], []) 15 = some true := by
   unfold g_retry_timely
   rw [within_eq, retry_Check_eq (sz_one _ _ _ _), ok_one (by decide) (by decide) (by decide) (by decide)]
   rfl
  unfold g_retry_Tick
  rw [e0, Option.bind_some, Bool.not_true, cond_false, rowned_eq (okW_few (ok_one (by decide) (by decide) (by decide) (by decide))), Option.bind_some]
  have i1 : iter g_retry_Tick_r1 ([(1, exM, 4, 15)], 1, 0, 15, [], ()) = some (.inl ([(1, exM, 4, 15)], 15, [], ())) := iter_n 3 (by kernel_rfl)
  simp only [List.length_singleton, Int.natCast_one, i1, Option.bind_some, beq_self_eq_true, cond_true]
  have i2 : iter g_retry_Tick_r3 ([], 1, 0, (2, [(1, exM, 4, 15)], []), 15, (0, [], []), [], ()) = some ([exM], (2, [(1, exM, 3, 20)], []), (0, [], []), [], ()) := iter_n 3 (by kernel_rfl)
  simp only [i2, Option.bind_some]
 have a1 : g_retry_Answered (2, [(1, exM, 3, 20)], []) 1 = some ((2, [], []), true, 0) := by
  rw [Answered_eq (sz_one _ _ _ _) (ok_one (by decide) (by decide) (by decide) (by decide))]
  rfl
 have hz : szW (2, [], []) := ⟨Nat.zero_le _, (fun _ h => by cases h), Nat.zero_le _, (fun _ h => by cases h)⟩
 have t2 : g_retry_Tick (2, [], []) 100 = some ((2, [], []), [], [], 0) := by
  have e0 : g_retry_timely (2, [], []) 100 = some true := by
   unfold g_retry_timely
   rw [within_eq, retry_Check_eq hz]
   rfl
  unfold g_retry_Tick
  rw [e0, Option.bind_some, Bool.not_true, cond_false, rowned_eq (okW_few (by rfl)), Option.bind_some]
  have i1 : iter g_retry_Tick_r1 ([], 0, 0, 100, [], ()) = some (.inl ([], 100, [], ())) := iter_n 3 (by kernel_rfl)
  simp only [List.length_nil, Int.natCast_zero, i1, Option.bind_some, beq_self_eq_true, cond_true]
  have i2 : iter g_retry_Tick_r3 ([], 0, 0, (2, [], []), 100, (0, [], []), [], ()) = some ([], (2, [], []), (0, [], []), [], ()) := iter_n 3 (by kernel_rfl)
  simp only [i2, Option.bind_some]
 unfold g_law17_live
 rw [n1, Option.bind_some]
 have p1 : g_retry_Post (1, [], []) (1, (0, (0, (0, (0, (0, (0, (0, ((ByteArray.mk #[97]), []))))))))) 10 = some ((2, [(1, exM, 4, 15)], []), exM, 0) := p1
 rw [p1, Option.bind_some]
 simp only [t1, Option.bind_some]
 have a1 : g_retry_Answered (2, [(1, exM, 3, 20)], []) exM.2.2.2.2.1 = some ((2, [], []), true, 0) := a1
 simp only [a1, t2, Option.bind_some]
 rfl
end Go.Sq
namespace Go.Sq
open Go.Rx
theorem Big_tot (m : Msg) : ∃ b, g_r15_Big m = some b := ⟨_, rfl⟩
theorem few_tot {w : RS} (hz : szW w) : ∃ b, g_law17_few w = some b := by
 obtain ⟨h1, _, h3, _⟩ := hz
 have l1 : ∃ r, iter g_law17_few_r1 (w.2.1, (w.2.1.length : Int), 0, w, ()) = some r ∧ (r = .inl (w, ()) ∨ ∃ b, r = .inr (b, ())) := by
  have := iter_scan (f := g_law17_few_r1) w.2.1 (fun i (_ : Unit) => (w.2.1, (w.2.1.length : Int), (i : Int), w, ())) (fun _ a => if g_r15_Big a.2.1 = some true then Sum.inr () else Sum.inl ()) (fun _ => .inr (false, ())) (fun _ => .inl (w, ()))
   (fun i a s hi => by
    have hi2 := lt_of_get hi
    have ws : IntKind.i64.wrap ((i : Int) + 1) = ((i + 1 : Nat) : Int) := by rw [wrap_i64 (by omega) (by omega)]; rfl
    obtain ⟨b, hb⟩ := Big_tot a.2.1
    cases b with
    | true => simp (disch := omega) only [g_law17_few_r1, dT, wT, Int.toNat_natCast, gD hi, hb, Option.bind_some, cond_true, if_true]
    | false => simp (disch := omega) only [g_law17_few_r1, dT, wT, Int.toNat_natCast, gD hi, hb, Option.bind_some, cond_false, Option.some.injEq, Bool.false_eq_true, if_false, ws])
   (fun s => by simp (disch := omega) only [g_law17_few_r1, dF]) ()
  cases hs : scanL (fun (_ : Unit) (a : Snd) => (if g_r15_Big a.2.1 = some true then Sum.inr () else Sum.inl () : Unit ⊕ Unit)) () w.2.1 with
  | inl _ => rw [hs] at this; exact ⟨_, this, .inl rfl⟩
  | inr _ => rw [hs] at this; exact ⟨_, this, .inr ⟨false, rfl⟩⟩
 have l2 : ∃ r, iter g_law17_few_r2 (w.2.2, (w.2.2.length : Int), 0, w, ()) = some r ∧ (r = .inl (w, ()) ∨ ∃ b, r = .inr (b, ())) := by
  have := iter_scan (f := g_law17_few_r2) w.2.2 (fun i (_ : Unit) => (w.2.2, (w.2.2.length : Int), (i : Int), w, ())) (fun _ a => if (a.2.2.length : Int) > 100 then Sum.inr () else Sum.inl ()) (fun _ => .inr (false, ())) (fun _ => .inl (w, ()))
   (fun i a s hi => by
    have hi2 := lt_of_get hi
    have ws : IntKind.i64.wrap ((i : Int) + 1) = ((i + 1 : Nat) : Int) := by rw [wrap_i64 (by omega) (by omega)]; rfl
    by_cases hb : (a.2.2.length : Int) > 100
    ·simp (disch := omega) only [g_law17_few_r2, dT, wT, Int.toNat_natCast, gD hi, if_pos]
    ·simp (disch := omega) only [g_law17_few_r2, dT, dF, wT, Int.toNat_natCast, gD hi, if_neg hb, ws])
   (fun s => by simp (disch := omega) only [g_law17_few_r2, dF]) ()
  cases hs : scanL (fun (_ : Unit) (a : Hrd) => (if (a.2.2.length : Int) > 100 then Sum.inr () else Sum.inl () : Unit ⊕ Unit)) () w.2.2 with
  | inl _ => rw [hs] at this; exact ⟨_, this, .inl rfl⟩
  | inr _ => rw [hs] at this; exact ⟨_, this, .inr ⟨false, rfl⟩⟩
 obtain ⟨r1, e1, h1⟩ := l1
 obtain ⟨r2, e2, h2⟩ := l2
 unfold g_law17_few
 rw [e1, Option.bind_some]
 rcases h1 with rfl | ⟨b, rfl⟩
 ·simp only [e2, Option.bind_some]
  rcases h2 with rfl | ⟨b, rfl⟩
  ·show ∃ b, (bif decide ((w.2.1.length : Int) ≤ 100) then some (decide ((w.2.2.length : Int) ≤ 100)) else some false) = some b
   cases decide ((w.2.1.length : Int) ≤ 100)
   ·exact ⟨_, rfl⟩
   ·exact ⟨_, rfl⟩
  ·exact ⟨_, rfl⟩
 ·exact ⟨_, rfl⟩
theorem okL_app {P A : Type} {q : P → A → Bool} {nxt : A → P} (R : P → Prop) : ∀ {l : List A} {p : P} {a : A}, R p → (∀ x ∈ l, R (nxt x)) → okL q nxt p l = true → (∀ p', R p' → q p' a = true) → okL q nxt p (l ++ [a]) = true
 | [], p, a, hp, _, _, h2 => by
  show okL q nxt p [a] = true
  rw [okL, okL, h2 p hp]; rfl
 | b :: l, p, a, hp, hR, h, h2 => by
  rw [okL, Bool.and_eq_true] at h
  show (q p b && okL q nxt (nxt b) (l ++ [a])) = true
  rw [h.1, Bool.true_and]
  exact okL_app R (hR b List.mem_cons_self) (fun x hx => hR x (List.mem_cons_of_mem _ hx)) h.2 h2
theorem okL_mono {P A : Type} {q q' : P → A → Bool} {nxt : A → P} (h : ∀ p a, q p a = true → q' p a = true) : ∀ {l : List A} {p : P}, okL q nxt p l = true → okL q' nxt p l = true
 | [], _, _ => rfl
 | a :: l, p, hl => by
  rw [okL, Bool.and_eq_true] at hl ⊢
  exact ⟨h _ _ hl.1, okL_mono h hl.2⟩
theorem okSend_up {n n' p : Int} {s : Snd} (h : n ≤ n') (ho : okSend n p s = true) : okSend n' p s = true := by
 unfold okSend at *
 simp only [Bool.and_eq_true, decide_eq_true_eq] at *
 obtain ⟨⟨⟨⟨⟨a, b⟩, c⟩, d⟩, e⟩, f⟩ := ho
 exact ⟨⟨⟨⟨⟨a, by omega⟩, c⟩, d⟩, e⟩, f⟩
theorem okW_iff {w : RS} : okW w = true ↔ (1 ≤ w.1 ∧ w.1 ≤ 1073741824) ∧ w.2.1.length ≤ 64 ∧ w.2.2.length ≤ 64 ∧ okL (okSend w.1) (·.1) 0 w.2.1 = true ∧ okL okHrd (·.1) (-1) w.2.2 = true := by
 unfold okW
 simp only [Bool.and_eq_true, decide_eq_true_eq]
 constructor
 ·rintro ⟨⟨⟨⟨a, b⟩, c⟩, d⟩, e⟩
  exact ⟨a, by omega, by omega, d, e⟩
 ·rintro ⟨a, b, c, d, e⟩
  exact ⟨⟨⟨⟨a, by omega⟩, by omega⟩, d⟩, e⟩
theorem sends_lt {n : Int} : ∀ {l : List Snd} {p : Int}, okL (okSend n) (·.1) p l = true → ∀ s ∈ l, p < s.1 ∧ s.1 < n
 | a :: l, p, h, s, hs => by
  rw [okL, Bool.and_eq_true] at h
  have h1 := okSend_M h.1
  rcases List.mem_cons.1 hs with rfl | hs
  ·exact ⟨h1.1, h1.2.1⟩
  ·have := sends_lt h.2 s hs
   have : a.1 < s.1 ∧ s.1 < n := this
   exact ⟨by omega, this.2⟩
def sentW (w : RS) (m : Msg) (t : Int) : RS := (w.1 + 1, w.2.1 ++ [(w.1, noM m w.1, 4, t + 5)], w.2.2)
theorem sent_ok {w : RS} {m : Msg} {t : Int} (h : okW w = true) (hm : okM (noM m w.1) = true) (h1 : w.1 ≠ 1073741824) (h2 : w.2.1.length < 64) (ht : 0 ≤ t) (ht2 : t ≤ 1099511627776) : okW (sentW w m t) = true := by
 rw [okW_iff] at *
 obtain ⟨⟨a, b⟩, c, d, e, f⟩ := h
 refine ⟨⟨by show 1 ≤ w.1 + 1; omega, by show w.1 + 1 ≤ _; omega⟩, by show (w.2.1 ++ [_]).length ≤ 64; rw [List.length_append, List.length_singleton]; omega, d, ?_, f⟩
 have e2 : okL (okSend (w.1 + 1)) (·.1) 0 w.2.1 = true := okL_mono (fun p s => okSend_up (by omega)) e
 refine okL_app (fun p => p < w.1) (show (0 : Int) < w.1 by omega) (fun x hx => (sends_lt e x hx).2) e2 fun p hp => ?_
 unfold okSend
 have g1 : (decide (p < w.1) && decide (w.1 < w.1 + 1)) = true := by rw [decide_eq_true hp, decide_eq_true (by omega)]; rfl
 have g2 : ((noM m w.1).2.2.2.2.1 == w.1) = true := beq_self_eq_true _
 have g3 : (decide (t + 5 ≥ 0) && decide (t + 5 ≤ 2199023255552)) = true := by rw [decide_eq_true (by omega), decide_eq_true (by omega)]; rfl
 show ((decide (p < w.1) && decide (w.1 < w.1 + 1)) && ((noM m w.1).2.2.2.2.1 == w.1) && (decide ((4 : Int) ≥ 0) && decide ((4 : Int) ≤ 4)) && (decide (t + 5 ≥ 0) && decide (t + 5 ≤ 2199023255552)) && okM (noM m w.1)) = true
 rw [g1, g2, g3, hm]; rfl
theorem sent_sz {w : RS} {m : Msg} {t : Int} (hz : szW w) (hm : szM m) (h2 : w.2.1.length < 64) : szW (sentW w m t) := by
 obtain ⟨a, b, c, d⟩ := hz
 refine ⟨by show (w.2.1 ++ [_]).length ≤ _; rw [List.length_append, List.length_singleton]; omega, fun s hs => ?_, c, d⟩
 rcases List.mem_append.1 hs with hs | hs
 ·exact b s hs
 ·rcases List.mem_singleton.1 hs with rfl; exact hm
end Go.Sq
namespace Go.Sq
open Go.Rx
theorem drop_cons_of {A : Type} {l : List A} {i : Nat} {a : A} (h : l[i]? = some a) : l.drop i = a :: l.drop (i + 1) := by
 obtain ⟨h1, h2⟩ := List.getElem?_eq_some_iff.1 h
 rw [← h2]; exact List.drop_eq_getElem_cons h1
end Go.Sq
namespace Go.Sq
open Go.Rx
abbrev MsgTy : Ty := .pair (.int .i64) (.pair (.int .i64) (.pair (.int .i64) (.pair (.int .i64) (.pair (.int .i64) (.pair (.int .i64) (.pair (.int .i64) (.pair (.int .i64) (.pair .str (.sl (.int .u8))))))))))
abbrev PostTy : Ty := .pair (.int .i64) (.pair (.sl (.pair (.int .i64) (.pair MsgTy (.pair (.int .i64) (.int .i64))))) (.sl (.pair (.int .i64) (.pair (.int .i64) (.sl (.int .i64))))))
theorem wf_Msg {m : den MsgTy} (h : wf MsgTy m) : szM m := by
 obtain ⟨_, _, _, _, _, _, _, _, h9, h10, _⟩ := h
 exact ⟨h9, h10⟩
theorem wf_Post {w : den PostTy} (h : wf PostTy w) : szW w := by
 obtain ⟨_, ⟨h1, h2⟩, h3, h4⟩ := h
 exact ⟨h1, fun s hs => wf_Msg (h2 s hs).2.1, h3, fun x hx => (h4 x hx).2.2.1⟩
end Go.Sq
namespace Go.Sq
open Go.Rx
theorem comp_eq (a b : Int) : ∃ c, g_cmp_Compare_int a b = some c ∧ (c < 0 ↔ a < b) ∧ (c = 0 ↔ a = b) := by
 by_cases h1 : a < b
 ·exact ⟨-1, by simp (disch := omega) only [g_cmp_Compare_int, g_cmp_isNaN_int, bne_self_eq_false, Option.bind_some, cond_false, dT], by omega, by omega⟩
 ·by_cases h2 : a > b
  ·exact ⟨1, by simp (disch := omega) only [g_cmp_Compare_int, g_cmp_isNaN_int, bne_self_eq_false, Option.bind_some, cond_false, dT, dF], by omega, by omega⟩
  ·exact ⟨0, by simp (disch := omega) only [g_cmp_Compare_int, g_cmp_isNaN_int, bne_self_eq_false, Option.bind_some, cond_false, dF], by omega, by omega⟩
def cutsAt {A : Type} (key : A → Int) (x : Int) (l : List A) (p : Nat) : Prop := (∀ a ∈ l.take p, key a < x) ∧ ∀ a ∈ l.drop p, x ≤ key a
theorem bsf_eq {l : List Hrd} {x : Int} (hl : l.length ≤ 1000000) (hs : l.Pairwise (fun a b => a.1 < b.1)) :
  ∃ p : Nat, g_slices_BinarySearchFunc_Sapi_Heard_api_Heard_int_retry_Hear_1 l x = some ((p : Int), decide (p < l.length) && decide ((l.getD p (0, 0, [])).1 = x)) ∧ p ≤ l.length ∧ cutsAt (·.1) x l p := by
 have loop : ∃ r, iter g_slices_BinarySearchFunc_Sapi_Heard_api_Heard_int_retry_Hear_1_r1 (l, x, (l.length : Int), 0, (l.length : Int), ()) = some r ∧ ∃ p : Nat, p ≤ l.length ∧ cutsAt (·.1) x l p ∧ r = (l, x, (l.length : Int), (p : Int), ()) := by
  refine iter_ex (fun y => (y.2.2.2.2.1 - y.2.2.2.1).toNat) (fun y => ∃ i j : Nat, y = (l, x, (l.length : Int), (i : Int), (j : Int), ()) ∧ i ≤ j ∧ j ≤ l.length ∧ (∀ a ∈ l.take i, a.1 < x) ∧ ∀ a ∈ l.drop j, x ≤ a.1) (fun r => ∃ p : Nat, p ≤ l.length ∧ cutsAt (·.1) x l p ∧ r = (l, x, (l.length : Int), (p : Int), ())) ?_ _ ⟨0, l.length, rfl, Nat.zero_le _, Nat.le_refl _, by simp, by simp⟩
  rintro y ⟨i, j, rfl, h4, h5, h6, h7⟩
  by_cases hij : i < j
  ·have e1 : (i : Int) + (j : Int) = ((i + j : Nat) : Int) := by omega
   have e2 : shrI .u64 ((i + j : Nat) : Int) 1 = (((i + j) >>> 1 : Nat) : Int) := shr_nat (n := 1) (by simp [IntKind.bits])
   have e3 : (i + j) >>> 1 = (i + j) / 2 := by rw [Nat.shiftRight_eq_div_pow]
   rw [e3] at e2
   have hm : (i + j) / 2 < l.length := by omega
   obtain ⟨a, ha⟩ : ∃ a, l[(i + j) / 2]? = some a := ⟨_, List.getElem?_eq_getElem hm⟩
   obtain ⟨c, c1, c2, c3⟩ := comp_eq a.1 x
   have hsp : l = l.take ((i + j) / 2) ++ a :: l.drop ((i + j) / 2 + 1) := by
    rw [← drop_cons_of ha, List.take_append_drop]
   rw [hsp, List.pairwise_append] at hs
   obtain ⟨_, hs2, hs3⟩ := hs
   rw [List.pairwise_cons] at hs2
   by_cases h8 : a.1 < x
   ·left
    refine ⟨(l, x, (l.length : Int), (((i + j) / 2 + 1 : Nat) : Int), (j : Int), ()), ?_, ⟨_, j, rfl, by omega, h5, fun b hb => ?_, h7⟩, by simp only; omega⟩
    ·have := c2.2 h8
     simp (disch := omega) only [g_slices_BinarySearchFunc_Sapi_Heard_api_Heard_int_retry_Hear_1_r1, dT, wrap_i64, wrap_u64, e1, e2, wT, Int.toNat_natCast, gD ha, g_retry_Hear_1, c1, Option.bind_some]
     rfl
    ·rw [take_succ_of ha, List.mem_append, List.mem_singleton] at hb
     rcases hb with hb | rfl
     ·have := hs3 b hb a List.mem_cons_self
      omega
     ·exact h8
   ·left
    refine ⟨(l, x, (l.length : Int), (i : Int), (((i + j) / 2 : Nat) : Int), ()), ?_, ⟨i, _, rfl, by omega, by omega, h6, fun b hb => ?_⟩, by simp only; omega⟩
    ·have : ¬ c < 0 := fun h => h8 (c2.1 h)
     simp (disch := omega) only [g_slices_BinarySearchFunc_Sapi_Heard_api_Heard_int_retry_Hear_1_r1, dT, dF, wrap_i64, wrap_u64, e1, e2, wT, Int.toNat_natCast, gD ha, g_retry_Hear_1, c1, Option.bind_some]
    ·rw [drop_cons_of ha, List.mem_cons] at hb
     rcases hb with rfl | hb
     ·omega
     ·have := hs2.1 b hb
      omega
  ·right
   have : i = j := by omega
   subst this
   refine ⟨_, ?_, i, by omega, ⟨h6, h7⟩, rfl⟩
   simp (disch := omega) only [g_slices_BinarySearchFunc_Sapi_Heard_api_Heard_int_retry_Hear_1_r1, dF]
 obtain ⟨r, h3, p, hp, hc, rfl⟩ := loop
 refine ⟨p, ?_, hp, hc⟩
 by_cases hpl : p < l.length
 ·obtain ⟨c, c1, c2, c3⟩ := comp_eq (l.getD p (0, 0, [])).1 x
  have e : (c == 0) = decide ((l.getD p (0, 0, [])).1 = x) := by
   by_cases h : c = 0
   ·rw [decide_eq_true (c3.1 h), h]; rfl
   ·rw [decide_eq_false (fun h' => h (c3.2 h'))]; exact beq_eq_false_iff_ne.2 h
  simp (disch := omega) only [g_slices_BinarySearchFunc_Sapi_Heard_api_Heard_int_retry_Hear_1, h3, Option.bind_some, dT, wT, Int.toNat_natCast, g_retry_Hear_1, c1, e]
  rw [decide_eq_true hpl, Bool.true_and]
 ·simp (disch := omega) only [g_slices_BinarySearchFunc_Sapi_Heard_api_Heard_int_retry_Hear_1, h3, Option.bind_some, dF]
  rw [decide_eq_false hpl, Bool.false_and]
theorem bsi_eq {l : List Int} {x : Int} (hl : l.length ≤ 1000000) (hs : l.Pairwise (· < ·)) :
  ∃ p : Nat, g_slices_BinarySearch_Sint_int l x = some ((p : Int), decide (x ∈ l)) ∧ p ≤ l.length ∧ cutsAt id x l p := by
 have loop : ∃ r, iter g_slices_BinarySearch_Sint_int_r1 (l, x, (l.length : Int), 0, (l.length : Int), ()) = some r ∧ ∃ p : Nat, p ≤ l.length ∧ cutsAt id x l p ∧ r = (l, x, (l.length : Int), (p : Int), ()) := by
  refine iter_ex (fun y => (y.2.2.2.2.1 - y.2.2.2.1).toNat) (fun y => ∃ i j : Nat, y = (l, x, (l.length : Int), (i : Int), (j : Int), ()) ∧ i ≤ j ∧ j ≤ l.length ∧ (∀ a ∈ l.take i, a < x) ∧ ∀ a ∈ l.drop j, x ≤ a) (fun r => ∃ p : Nat, p ≤ l.length ∧ cutsAt id x l p ∧ r = (l, x, (l.length : Int), (p : Int), ())) ?_ _ ⟨0, l.length, rfl, Nat.zero_le _, Nat.le_refl _, by simp, by simp⟩
  rintro y ⟨i, j, rfl, h4, h5, h6, h7⟩
  by_cases hij : i < j
  ·have e1 : (i : Int) + (j : Int) = ((i + j : Nat) : Int) := by omega
   have e2 : shrI .u64 ((i + j : Nat) : Int) 1 = (((i + j) >>> 1 : Nat) : Int) := shr_nat (n := 1) (by simp [IntKind.bits])
   have e3 : (i + j) >>> 1 = (i + j) / 2 := by rw [Nat.shiftRight_eq_div_pow]
   rw [e3] at e2
   have hm : (i + j) / 2 < l.length := by omega
   obtain ⟨a, ha⟩ : ∃ a, l[(i + j) / 2]? = some a := ⟨_, List.getElem?_eq_getElem hm⟩
   have hsp : l = l.take ((i + j) / 2) ++ a :: l.drop ((i + j) / 2 + 1) := by
    rw [← drop_cons_of ha, List.take_append_drop]
   rw [hsp, List.pairwise_append] at hs
   obtain ⟨_, hs2, hs3⟩ := hs
   rw [List.pairwise_cons] at hs2
   by_cases h8 : a < x
   ·left
    refine ⟨(l, x, (l.length : Int), (((i + j) / 2 + 1 : Nat) : Int), (j : Int), ()), ?_, ⟨_, j, rfl, by omega, h5, fun b hb => ?_, h7⟩, by simp only; omega⟩
    ·simp (disch := omega) only [g_slices_BinarySearch_Sint_int_r1, dT, wrap_i64, wrap_u64, e1, e2, wT, Int.toNat_natCast, gD ha, cmp_Less_eq, Option.bind_some]
     rfl
    ·rw [take_succ_of ha, List.mem_append, List.mem_singleton] at hb
     rcases hb with hb | rfl
     ·have := hs3 b hb a List.mem_cons_self
      omega
     ·exact h8
   ·left
    refine ⟨(l, x, (l.length : Int), (i : Int), (((i + j) / 2 : Nat) : Int), ()), ?_, ⟨i, _, rfl, by omega, by omega, h6, fun b hb => ?_⟩, by simp only; omega⟩
    ·simp (disch := omega) only [g_slices_BinarySearch_Sint_int_r1, dT, dF, wrap_i64, wrap_u64, e1, e2, wT, Int.toNat_natCast, gD ha, cmp_Less_eq, Option.bind_some]
    ·rw [drop_cons_of ha, List.mem_cons] at hb
     rcases hb with rfl | hb
     ·omega
     ·have := hs2.1 b hb
      omega
  ·right
   have : i = j := by omega
   subst this
   refine ⟨_, ?_, i, by omega, ⟨h6, h7⟩, rfl⟩
   simp (disch := omega) only [g_slices_BinarySearch_Sint_int_r1, dF]
 obtain ⟨r, h3, p, hp, hc, rfl⟩ := loop
 refine ⟨p, ?_, hp, hc⟩
 by_cases hpl : p < l.length
 ·obtain ⟨a, ha⟩ : ∃ a, l[p]? = some a := ⟨_, List.getElem?_eq_getElem hpl⟩
  have hsp : l = l.take p ++ a :: l.drop (p + 1) := by rw [← drop_cons_of ha, List.take_append_drop]
  by_cases hx : a = x
  ·have : x ∈ l := by rw [← hx]; exact mem_of_get ha
   rw [decide_eq_true this]
   simp (disch := omega) only [g_slices_BinarySearch_Sint_int, h3, Option.bind_some, dT, wT, Int.toNat_natCast, gD ha, eT]
  ·have hn : x ∉ l := by
    rw [hsp, List.mem_append, List.mem_cons]
    rintro (h | h | h)
    ·have := hc.1 x h
     simp at this
    ·exact hx h.symm
    ·rw [hsp, List.pairwise_append, List.pairwise_cons] at hs
     have h1 := hs.2.1.1 x h
     have h2 := hc.2 a (by rw [drop_cons_of ha]; exact List.mem_cons_self)
     simp only [id_eq] at h2
     omega
   rw [decide_eq_false hn]
   simp (disch := omega) only [g_slices_BinarySearch_Sint_int, h3, Option.bind_some, dT, wT, Int.toNat_natCast, gD ha, eF, g_slices_isNaN_int, bne_self_eq_false, cond_false]
 ·have hn : x ∉ l := by
   intro h
   rw [← List.take_of_length_le (i := p) (l := l) (by omega)] at h
   have := hc.1 x h
   simp at this
  rw [decide_eq_false hn]
  simp (disch := omega) only [g_slices_BinarySearch_Sint_int, h3, Option.bind_some, dF]
end Go.Sq
namespace Go.Sq
open Go.Rx
def bumpL : Int → List Int → Int × List Int
 | b, [] => (b, [])
 | b, a :: l => if a = b then bumpL (b + 1) l else (b, a :: l)
def insL (x : Int) : List Int → List Int
 | [] => [x]
 | a :: l => if a < x then a :: insL x l else x :: a :: l
def lowL (b : Int) (l : List Int) : Int := if 16 < l.length then l.getD 0 0 else b
def addH (h : Hrd) (t : Int) : Hrd := (h.1, bumpL (lowL h.2.1 (insL t h.2.2)) (insL t h.2.2))
def known (h : Hrd) (t : Int) : Bool := decide (t ∈ h.2.2) || decide (t < h.2.1)
theorem insL_cut {x : Int} : ∀ {l : List Int} {p : Nat}, p ≤ l.length → cutsAt id x l p → insL x l = l.take p ++ (x :: l.drop p)
 | [], p, hp, _ => by simp [insL]
 | a :: l, 0, _, hc => by
  have := hc.2 a (by simp)
  simp only [id_eq] at this
  rw [insL, if_neg (by omega)]; rfl
 | a :: l, p + 1, hp, hc => by
  have := hc.1 a (by simp)
  simp only [id_eq] at this
  rw [insL, if_pos this, insL_cut (by simpa using hp) ⟨fun b hb => hc.1 b (by simp [hb]), fun b hb => hc.2 b (by simpa using hb)⟩]; rfl
theorem insL_len (x : Int) : ∀ l : List Int, (insL x l).length = l.length + 1
 | [] => rfl
 | a :: l => by
  rw [insL]
  split
  ·rw [List.length_cons, insL_len x l]; rfl
  ·rfl
theorem insL_mem {x y : Int} : ∀ {l : List Int}, y ∈ insL x l ↔ y = x ∨ y ∈ l
 | [] => by simp [insL]
 | a :: l => by
  rw [insL]
  split
  ·rw [List.mem_cons, insL_mem, List.mem_cons]
   constructor
   ·rintro (h | h | h)
    ·exact .inr (.inl h)
    ·exact .inl h
    ·exact .inr (.inr h)
   ·rintro (h | h | h)
    ·exact .inr (.inl h)
    ·exact .inl h
    ·exact .inr (.inr h)
  ·simp
theorem insL_sorted {x : Int} : ∀ {l : List Int}, l.Pairwise (· < ·) → x ∉ l → (insL x l).Pairwise (· < ·)
 | [], _, _ => by simp [insL]
 | a :: l, h, hx => by
  rw [List.pairwise_cons] at h
  rw [List.mem_cons, not_or] at hx
  rw [insL]
  split
  ·rw [List.pairwise_cons]
   refine ⟨fun b hb => ?_, insL_sorted h.2 hx.2⟩
   rcases insL_mem.1 hb with rfl | hb
   ·assumption
   ·exact h.1 b hb
  ·rw [List.pairwise_cons, List.pairwise_cons]
   refine ⟨fun b hb => ?_, h⟩
   rw [List.mem_cons] at hb
   rcases hb with rfl | hb
   ·omega
   ·have := h.1 b hb; omega
theorem bump_loop {k : Nat} {l : List Hrd} {f b x : Int} {L : List Int} (hb : -1000000000000 ≤ b) (hb2 : b ≤ 1000000000000) (hL : L.length ≤ 1000) :
  ∃ n : Nat, iter g_retry_HearA_r4 (k, (l, (k, ((f, b, ()), L))), x, 0, ()) = some (k, (l, (k, ((f, (bumpL b L).1, ()), L))), x, (n : Int), ()) ∧ n ≤ L.length ∧ L.drop n = (bumpL b L).2 := by
 have loop : ∃ r, iter g_retry_HearA_r4 (k, (l, (k, ((f, b, ()), L))), x, 0, ()) = some r ∧ ∃ n : Nat, n ≤ L.length ∧ r = (k, (l, (k, ((f, (bumpL b L).1, ()), L))), x, (n : Int), ()) ∧ L.drop n = (bumpL b L).2 := by
  refine iter_ex (fun y => (L.length - y.2.2.2.1.toNat)) (fun y => ∃ n : Nat, n ≤ L.length ∧ y = (k, (l, (k, ((f, b + (n : Int), ()), L))), x, (n : Int), ()) ∧ bumpL (b + (n : Int)) (L.drop n) = bumpL b L)
   (fun r => ∃ n : Nat, n ≤ L.length ∧ r = (k, (l, (k, ((f, (bumpL b L).1, ()), L))), x, (n : Int), ()) ∧ L.drop n = (bumpL b L).2) ?_ _ ⟨0, Nat.zero_le _, by simp, by simp⟩
  rintro y ⟨n, hn, rfl, he⟩
  by_cases h : n < L.length
  ·obtain ⟨a, ha⟩ : ∃ a, L[n]? = some a := ⟨_, List.getElem?_eq_getElem h⟩
   rw [drop_cons_of ha, bumpL] at he
   by_cases hab : a = b + (n : Int)
   ·left
    rw [if_pos hab] at he
    refine ⟨(k, (l, (k, ((f, b + ((n + 1 : Nat) : Int), ()), L))), x, ((n + 1 : Nat) : Int), ()), ?_, ⟨n + 1, h, rfl, ?_⟩, by simp only [Int.toNat_natCast]; omega⟩
    ·have e : (a == b + (n : Int)) = true := beq_iff_eq.2 hab
     have w1 : IntKind.i64.wrap (b + (n : Int) + 1) = b + ((n + 1 : Nat) : Int) := by rw [wrap_i64 (by omega) (by omega)]; omega
     have w2 : IntKind.i64.wrap ((n : Int) + 1) = ((n + 1 : Nat) : Int) := by rw [wrap_i64 (by omega) (by omega)]; omega
     simp (disch := omega) only [g_retry_HearA_r4, Nat.beq_refl, cond_true, dT, wT, Int.toNat_natCast, gD ha, e, Option.bind_some, w1, w2]
    ·rw [show b + ((n + 1 : Nat) : Int) = b + (n : Int) + 1 by omega]; exact he
   ·right
    rw [if_neg hab] at he
    refine ⟨_, ?_, n, hn, rfl, by rw [drop_cons_of ha, ← he]⟩
    have e : (a == b + (n : Int)) = false := beq_false_of_ne hab
    rw [← he]
    simp (disch := omega) only [g_retry_HearA_r4, Nat.beq_refl, cond_true, cond_false, dT, wT, Int.toNat_natCast, gD ha, e, Option.bind_some]
  ·right
   have hd : L.drop n = [] := List.drop_eq_nil_of_le (by omega)
   rw [hd, bumpL] at he
   refine ⟨_, ?_, n, hn, rfl, by rw [hd, ← he]⟩
   rw [← he]
   simp (disch := omega) only [g_retry_HearA_r4, Nat.beq_refl, cond_true, cond_false, dF, Option.bind_some]
 obtain ⟨r, h1, n, h2, rfl, h3⟩ := loop
 exact ⟨n, h1, h2, h3⟩
theorem hearB_r1 : g_retry_HearB_r1 = g_retry_HearA_r4 := rfl
theorem insertI_eq {l : List Int} {x : Int} {p : Nat} (hp : p ≤ l.length) (hl : l.length ≤ 1000) (hc : cutsAt id x l p) : g_slices_InsertT_Sint_int l (p : Int) [x] = some (insL x l) := by
 unfold g_slices_InsertT_Sint_int insT
 have hr : room 8 (l.length + [x].length) = true := room_iff.2 (by simp; omega)
 rw [hr, decide_eq_true (show (0 : Int) ≤ (p : Int) by omega), decide_eq_true (show (p : Int) ≤ (l.length : Int) by omega), decide_eq_true (show 0 < [x].length by simp)]
 rw [insL_cut hp hc]
 simp only [Bool.and_self, cond_true, Int.toNat_natCast, List.singleton_append]
theorem okNo_sorted : ∀ {l : List Int} {b : Int}, okL okNo (·) b l = true → l.Pairwise (· < ·) ∧ ∀ x ∈ l, b < x ∧ x ≤ 1073741824
 | [], _, _ => by simp
 | a :: l, b, h => by
  rw [okL, Bool.and_eq_true] at h
  obtain ⟨h1, h2⟩ := h
  unfold okNo at h1
  simp only [Bool.and_eq_true, decide_eq_true_eq] at h1
  obtain ⟨h3, h4⟩ := okNo_sorted h2
  refine ⟨List.pairwise_cons.2 ⟨fun x hx => (h4 x hx).1, h3⟩, fun x hx => ?_⟩
  rw [List.mem_cons] at hx
  rcases hx with rfl | hx
  ·omega
  ·have := h4 x hx; omega
theorem okNo_of : ∀ {l : List Int} {b : Int}, l.Pairwise (· < ·) → (∀ x ∈ l, b < x ∧ x ≤ 1073741824) → okL okNo (·) b l = true
 | [], _, _, _ => rfl
 | a :: l, b, h, hb => by
  rw [List.pairwise_cons] at h
  rw [okL, Bool.and_eq_true]
  have h1 := hb a List.mem_cons_self
  refine ⟨?_, okNo_of h.2 fun x hx => ⟨h.1 x hx, (hb x (List.mem_cons_of_mem _ hx)).2⟩⟩
  unfold okNo
  simp only [Bool.and_eq_true, decide_eq_true_eq]
  omega
theorem bump_ok : ∀ {l : List Int} {b : Int}, l.Pairwise (· < ·) → (∀ x ∈ l, b ≤ x ∧ x ≤ 1073741824) → b ≤ 1073741825 →
  b ≤ (bumpL b l).1 ∧ (bumpL b l).1 ≤ 1073741825 ∧ okL okNo (·) (bumpL b l).1 (bumpL b l).2 = true ∧ (bumpL b l).2.length ≤ l.length ∧ ∀ x ∈ l, x < (bumpL b l).1 ∨ x ∈ (bumpL b l).2
 | [], b, _, _, hb => ⟨Int.le_refl _, hb, rfl, Nat.le_refl _, fun x hx => by cases hx⟩
 | a :: l, b, hs, hl, hb => by
  rw [List.pairwise_cons] at hs
  have ha := hl a List.mem_cons_self
  rw [bumpL]
  split
  ·rename_i e
   obtain ⟨h1, h2, h3, h4, h5⟩ := bump_ok (b := b + 1) hs.2 (fun x hx => ⟨by have := hs.1 x hx; omega, (hl x (List.mem_cons_of_mem _ hx)).2⟩) (by omega)
   refine ⟨by omega, h2, h3, by rw [List.length_cons]; omega, fun x hx => ?_⟩
   rw [List.mem_cons] at hx
   rcases hx with rfl | hx
   ·exact .inl (by omega)
   ·exact h5 x hx
  ·refine ⟨Int.le_refl _, hb, okNo_of (List.pairwise_cons.2 hs) (fun x hx => ?_), Nat.le_refl _, fun x hx => .inr hx⟩
   rw [List.mem_cons] at hx
   rcases hx with rfl | hx
   ·omega
   ·have h1 := hs.1 x hx
    have h2 := hl x (List.mem_cons_of_mem _ hx)
    omega
theorem okHrd_iff {p : Int} {h : Hrd} : okHrd p h = true ↔ p < h.1 ∧ h.1 ≤ 1073741824 ∧ 0 ≤ h.2.1 ∧ h.2.1 ≤ 1073741825 ∧ h.2.2.length ≤ 16 ∧ okL okNo (·) h.2.1 h.2.2 = true := by
 unfold okHrd
 simp only [Bool.and_eq_true, decide_eq_true_eq]
 constructor
 ·rintro ⟨⟨⟨⟨h1, h2⟩, h3, h4⟩, h5⟩, h6⟩
  exact ⟨by omega, h2, by omega, h4, by omega, h6⟩
 ·rintro ⟨h1, h2, h3, h4, h5, h6⟩
  exact ⟨⟨⟨⟨by omega, h2⟩, by omega, h4⟩, by omega⟩, h6⟩
theorem add_ok {p : Int} {h : Hrd} {t : Int} (ho : okHrd p h = true) (h0 : 0 ≤ t) (h1 : t ≤ 1073741824) (hk : known h t = false) :
  okHrd p (addH h t) = true ∧ (addH h t).1 = h.1 ∧ known (addH h t) t = true ∧ ∀ u, known h u = true → known (addH h t) u = true := by
 obtain ⟨o1, o2, o3, o4, o5, o6⟩ := okHrd_iff.1 ho
 obtain ⟨s1, s2⟩ := okNo_sorted o6
 unfold known at hk
 rw [Bool.or_eq_false_iff, decide_eq_false_iff_not, decide_eq_false_iff_not] at hk
 have hs := insL_sorted s1 hk.1
 have hm : ∀ x ∈ insL t h.2.2, h.2.1 ≤ x ∧ x ≤ 1073741824 := fun x hx => by
  rcases insL_mem.1 hx with rfl | hx
  ·omega
  ·have := s2 x hx; omega
 have hlen := insL_len t h.2.2
 have key : ∃ b, b = lowL h.2.1 (insL t h.2.2) ∧ h.2.1 ≤ b ∧ b ≤ 1073741825 ∧ (∀ x ∈ insL t h.2.2, b ≤ x ∧ x ≤ 1073741824) ∧ (16 < (insL t h.2.2).length → ∃ l, insL t h.2.2 = b :: l) := by
  refine ⟨_, rfl, ?_⟩
  unfold lowL
  by_cases hc : 16 < (insL t h.2.2).length
  ·rw [if_pos hc]
   cases e : insL t h.2.2 with
   | nil => rw [e] at hc; simp at hc
   | cons a l =>
    rw [e] at hm hs
    rw [List.pairwise_cons] at hs
    have ha := hm a List.mem_cons_self
    refine ⟨ha.1, by show a ≤ _; omega, fun x hx => ?_, fun _ => ⟨l, rfl⟩⟩
    show a ≤ x ∧ _
    refine ⟨?_, (hm x hx).2⟩
    rw [List.mem_cons] at hx
    rcases hx with rfl | hx
    ·omega
    ·have := hs.1 x hx; omega
  ·rw [if_neg hc]
   exact ⟨Int.le_refl _, o4, hm, fun h => absurd h hc⟩
 obtain ⟨b, hb, b1, b2, b3, b4⟩ := key
 obtain ⟨k1, k2, k3, k4, k5⟩ := bump_ok hs b3 b2
 have hlen2 : (bumpL b (insL t h.2.2)).2.length ≤ 16 := by
  by_cases hc : 16 < (insL t h.2.2).length
  ·obtain ⟨l, e⟩ := b4 hc
   rw [e] at hlen hs b3 ⊢
   rw [bumpL, if_pos rfl]
   rw [List.pairwise_cons] at hs
   have := (bump_ok (b := b + 1) hs.2 (fun x hx => ⟨by have := hs.1 x hx; omega, (b3 x (List.mem_cons_of_mem _ hx)).2⟩) (by have := b3 b List.mem_cons_self; omega)).2.2.2.1
   rw [List.length_cons] at hlen
   omega
  ·omega
 unfold addH
 rw [← hb]
 refine ⟨okHrd_iff.2 ⟨o1, o2, by show 0 ≤ (bumpL b _).1; omega, k2, hlen2, k3⟩, rfl, ?_, fun u hu => ?_⟩
 ·unfold known
  rw [Bool.or_eq_true, decide_eq_true_eq, decide_eq_true_eq]
  exact (k5 t (insL_mem.2 (.inl rfl))).symm
 ·unfold known at hu ⊢
  rw [Bool.or_eq_true, decide_eq_true_eq, decide_eq_true_eq] at hu ⊢
  rcases hu with hu | hu
  ·exact (k5 u (insL_mem.2 (.inr hu))).symm
  ·exact .inr (by show u < (bumpL b _).1; omega)
end Go.Sq
namespace Go.Sq
open Go.Rx
def findH (f : Int) : List Hrd → Option Hrd
 | [] => none
 | a :: l => if a.1 = f then some a else findH f l
def putH (h : Hrd) : List Hrd → List Hrd
 | [] => [h]
 | a :: l => if a.1 < h.1 then a :: putH h l else if a.1 = h.1 then h :: l else h :: a :: l
def hearP (w : RS) (f t : Int) : RS × Bool × Int :=
 if 0 ≤ f ∧ f ≤ 1073741824 ∧ 0 ≤ t ∧ t ≤ 1073741824 then
  match findH f w.2.2 with
  | some h => if known h t = true then (w, false, 0) else ((w.1, w.2.1, putH (addH h t) w.2.2), true, 0)
  | none => if 64 ≤ w.2.2.length then (zWq, false, 2) else ((w.1, w.2.1, putH (addH (f, 0, []) t) w.2.2), true, 0)
 else (zWq, false, 1)
theorem heard_sorted : ∀ {l : List Hrd} {b : Int}, okL okHrd (·.1) b l = true → l.Pairwise (fun a b => a.1 < b.1) ∧ ∀ x ∈ l, b < x.1 ∧ ∃ q, okHrd q x = true
 | [], _, _ => by simp
 | a :: l, b, h => by
  rw [okL, Bool.and_eq_true] at h
  obtain ⟨h1, h2⟩ := h
  obtain ⟨h3, h4⟩ := heard_sorted h2
  refine ⟨List.pairwise_cons.2 ⟨fun x hx => (h4 x hx).1, h3⟩, fun x hx => ?_⟩
  have := (okHrd_iff.1 h1).1
  rw [List.mem_cons] at hx
  rcases hx with rfl | hx
  ·exact ⟨this, _, h1⟩
  ·exact ⟨by have := (h4 x hx).1; omega, (h4 x hx).2⟩
theorem put_had {f : Int} {h h' : Hrd} (hf : h.1 = f) (hf' : h'.1 = f) : ∀ {l : List Hrd} {p : Nat}, cutsAt (·.1) f l p → l[p]? = some h → putH h' l = l.set p h' ∧ findH f l = some h
 | [], p, _, hp => by simp at hp
 | a :: l, 0, _, hp => by
  simp at hp
  subst hp
  rw [putH, if_neg (by omega), if_pos (by omega), findH, if_pos hf]
  exact ⟨rfl, rfl⟩
 | a :: l, p + 1, hc, hp => by
  have := hc.1 a (by simp)
  obtain ⟨h1, h2⟩ := put_had hf hf' (l := l) (p := p) ⟨fun b hb => hc.1 b (by simp [hb]), fun b hb => hc.2 b (by simpa using hb)⟩ (by simpa using hp)
  simp only at this
  rw [putH, if_pos (by omega), findH, if_neg (by omega), h1]
  exact ⟨rfl, h2⟩
theorem put_not {f : Int} {h' : Hrd} (hf' : h'.1 = f) : ∀ {l : List Hrd} {p : Nat}, p ≤ l.length → l.Pairwise (fun a b => a.1 < b.1) → cutsAt (·.1) f l p → (∀ h, l[p]? = some h → h.1 ≠ f) → putH h' l = l.take p ++ h' :: l.drop p ∧ findH f l = none
 | [], p, _, _, _, _ => by simp [putH, findH]
 | a :: l, 0, _, hs, hc, hp => by
  have h1 := hc.2 a (by simp)
  have h2 := hp a (by simp)
  simp only at h1
  rw [putH, if_neg (by omega), if_neg (by omega), findH, if_neg (by omega)]
  refine ⟨rfl, ?_⟩
  rw [List.pairwise_cons] at hs
  have h3 : ∀ l : List Hrd, (∀ x ∈ l, f < x.1) → findH f l = none := by
   intro l
   induction l with
   | nil => intro _; rfl
   | cons b l ih =>
    intro hb
    have := hb b List.mem_cons_self
    rw [findH, if_neg (by omega)]
    exact ih fun x hx => hb x (List.mem_cons_of_mem _ hx)
  exact h3 l fun x hx => by have := hs.1 x hx; omega
 | a :: l, p + 1, hl, hs, hc, hp => by
  have := hc.1 a (by simp)
  rw [List.pairwise_cons] at hs
  obtain ⟨h1, h2⟩ := put_not hf' (l := l) (p := p) (by simpa using hl) hs.2 ⟨fun b hb => hc.1 b (by simp [hb]), fun b hb => hc.2 b (by simpa using hb)⟩ (fun h hh => hp h (by simpa using hh))
  simp only at this
  rw [putH, if_pos (by omega), findH, if_neg (by omega), h1]
  exact ⟨rfl, h2⟩
theorem hearA_r1 : g_retry_HearA_r1 = g_retry_owned_r1 := rfl
theorem owned_l1 {w : RS} (h : fewW w) : iter g_retry_owned_r1 ((w.2.1.length : Int), 0, (w.1, (w.2.1, w.2.2)), (0, ([], [])), ()) = some (w, (0, ([], [])), ()) :=
 iter_count (fun i => ((w.2.1.length : Int), (i : Int), (w.1, (w.2.1, w.2.2)), (0, ([], [])), ())) w.2.1.length (fun i hi => by
  obtain ⟨h1, h2, h3, h4⟩ := h
  obtain ⟨a, ha⟩ : ∃ a, w.2.1[i]? = some a := ⟨_, List.getElem?_eq_getElem hi⟩
  have ws : IntKind.i64.wrap ((i : Int) + 1) = ((i + 1 : Nat) : Int) := by rw [wrap_i64 (by omega) (by omega)]; rfl
  have hl := letter_eq (m := a.2.1) (by have := h2 a (mem_of_get ha); omega)
  simp (disch := omega) only [g_retry_owned_r1, dT, wT, Int.toNat_natCast, gD ha, hl, Option.bind_some, ws]
  rw [set_sameQ ha]) (by simp (disch := omega) only [g_retry_owned_r1, dF])
theorem beqF {a b : Nat} (h : a ≠ b) : Nat.beq a b = false := by
 cases e : Nat.beq a b with
 | false => rfl
 | true => exact absurd (Nat.eq_of_beq_eq_true e) h
theorem owned_l2 {w : RS} (h : fewW w) {p : Nat} (hp : p < w.2.2.length) : iter (g_retry_HearA_r2 p) ((w.2.2.length : Int), 0, w, (0, ([], [])), ()) = some (.inl ((w.2.2.length : Int), (p : Int), w, (0, ([], [])), ())) :=
 iter_count (fun i => ((w.2.2.length : Int), (i : Int), w, (0, ([], [])), ())) p (fun i hi => by
  obtain ⟨h1, h2, h3, h4⟩ := h
  obtain ⟨a, ha⟩ : ∃ a, w.2.2[i]? = some a := ⟨_, List.getElem?_eq_getElem (by omega)⟩
  have ws : IntKind.i64.wrap ((i : Int) + 1) = ((i + 1 : Nat) : Int) := by rw [wrap_i64 (by omega) (by omega)]; rfl
  have hl := clone_ints (l := a.2.2) (by have := h4 a (mem_of_get ha); omega)
  simp (disch := omega) only [g_retry_HearA_r2, beqF, cond_false, dT, wT, Int.toNat_natCast, gD ha, hl, Option.bind_some, ws]
  rw [set_sameQ ha]) (by simp only [g_retry_HearA_r2, Int.toNat_natCast, Nat.beq_refl, cond_true])
theorem owned_l3 {w : RS} (h : fewW w) {p : Nat} {x : (Int × Int × Unit) × List Int} (hp : p < w.2.2.length) : iter g_retry_HearA_r3 ((w.2.2.length : Int), ((p + 1 : Nat) : Int), (w.1, ()), w.2.1, (w.2.2, (p, x)), (0, ([], [])), ()) = some ((w.1, ()), w.2.1, (w.2.2, (p, x)), (0, ([], [])), ()) :=
 iter_count (fun i => ((w.2.2.length : Int), ((p + 1 + i : Nat) : Int), (w.1, ()), w.2.1, (w.2.2, (p, x)), (0, ([], [])), ())) (w.2.2.length - (p + 1)) (fun i hi => by
  obtain ⟨h1, h2, h3, h4⟩ := h
  obtain ⟨a, ha⟩ : ∃ a, w.2.2[p + 1 + i]? = some a := ⟨_, List.getElem?_eq_getElem (by omega)⟩
  have ws : IntKind.i64.wrap (((p + 1 + i : Nat) : Int) + 1) = ((p + 1 + (i + 1) : Nat) : Int) := by rw [wrap_i64 (by omega) (by omega)]; omega
  have hl := clone_ints (l := a.2.2) (by have := h4 a (mem_of_get ha); omega)
  have hb : Nat.beq (p + 1 + i) p = false := beqF (by omega)
  simp (disch := omega) only [g_retry_HearA_r3, hb, Bool.not_false, cond_true, dT, wT, Int.toNat_natCast, gD ha, hl, Option.bind_some, ws]
  rw [set_sameQ ha]) (by
  obtain ⟨h1, h2, h3, h4⟩ := h
  simp (disch := omega) only [g_retry_HearA_r3, dF])
theorem take_all {l : List Int} {n : Nat} : (l.drop n).take (l.length - n) = l.drop n := List.take_of_length_le (by rw [List.length_drop]; omega)
theorem cutT {n : Nat} {l : List Int} (h : n ≤ l.length) : cutG (n : Int) (l.length : Int) l.length = true := by
 unfold cutG
 simp only [Bool.and_eq_true, decide_eq_true_eq]
 omega
theorem hearA_eq {w : RS} {f t : Int} {p : Nat} {h : Hrd} (hz : szW w) (ho : okW w = true) (hf0 : 0 ≤ f) (hf1 : f ≤ 1073741824) (ht0 : 0 ≤ t) (ht1 : t ≤ 1073741824) (hp : w.2.2[p]? = some h) (hs : g_slices_BinarySearchFunc_Sapi_Heard_api_Heard_int_retry_Hear_1 w.2.2 f = some ((p : Int), true)) :
  g_retry_HearA p w f t = some (if known h t = true then (w, false, 0) else ((w.1, w.2.1, w.2.2.set p (addH h t)), true, 0)) := by
 have few := okW_few ho
 have few2 := few
 obtain ⟨f1, f2, f3, f4⟩ := few2
 have hpl := lt_of_get hp
 have hw := okW_iff.1 ho
 obtain ⟨_, q, hq⟩ := (heard_sorted hw.2.2.2.2).2 h (mem_of_get hp)
 obtain ⟨o1, o2, o3, o4, o5, o6⟩ := okHrd_iff.1 hq
 obtain ⟨s1, s2⟩ := okNo_sorted o6
 have hck : g_retry_Check w = some 0 := by rw [retry_Check_eq hz, ho]; rfl
 have hw1 : g_retry_within f 0 1073741824 = some true := by rw [within_eq, decide_eq_true (show f ≥ 0 from hf0), decide_eq_true hf1]; rfl
 have hw2 : g_retry_within t 0 1073741824 = some true := by rw [within_eq, decide_eq_true (show t ≥ 0 from ht0), decide_eq_true ht1]; rfl
 have hc := clone_ints (l := h.2.2) (by omega)
 have ws : IntKind.i64.wrap ((p : Int) + 1) = ((p + 1 : Nat) : Int) := by rw [wrap_i64 (by omega) (by omega)]; rfl
 obtain ⟨i, hi1, hi2, hi3⟩ := bsi_eq (l := h.2.2) (x := t) (by omega) s1
 have hset : w.2.2.set p (h.1, (h.2.1, h.2.2)) = w.2.2 := set_sameQ hp
 have e0 : ∀ a b : Option (RS × Bool × Int), (bif (0 : Int) != 0 then a else b) = b := fun _ _ => rfl
 have hblt : (Nat.blt p w.2.2.length && true) = true := by rw [Bool.and_true]; exact Nat.ble_eq_true_of_le (show p + 1 ≤ w.2.2.length by omega)
 have hd : (w.2.2.getD p (0, 0, [])) = h := gD hp _
 unfold g_retry_HearA
 simp only [hck, Option.bind_some, e0, hw1, Bool.not_true, cond_false, hw2, clone_sends (show w.2.1.length ≤ 1000 by omega), clone_heard (show w.2.2.length ≤ 1000 by omega), hearA_r1, owned_l1 few, owned_l2 few hpl]
 simp (disch := omega) only [dT, Int.toNat_natCast, hblt, cond_true, wT, Nat.beq_refl, hd, hc, Option.bind_some, ws, owned_l3 few hpl, hset, hs, Bool.not_true, cond_false, hi1]
 by_cases hk : known h t = true
 ·rw [if_pos hk]
  unfold known at hk
  rw [Bool.or_eq_true, decide_eq_true_eq, decide_eq_true_eq] at hk
  by_cases hm : t ∈ h.2.2
  ·rw [decide_eq_true hm]
   simp only [cond_true, Option.bind_some, hset]
  ·rw [decide_eq_false hm, decide_eq_true (hk.resolve_left hm)]
   simp only [cond_true, cond_false, Option.bind_some, hset]
 ·rw [if_neg hk]
  unfold known at hk
  rw [Bool.or_eq_true, decide_eq_true_eq, decide_eq_true_eq, not_or] at hk
  rw [decide_eq_false hk.1, decide_eq_false hk.2]
  have hlen := insL_len t h.2.2
  obtain ⟨b, hb⟩ : ∃ b, b = lowL h.2.1 (insL t h.2.2) := ⟨_, rfl⟩
  have hbr : -1000000000000 ≤ b ∧ b ≤ 1000000000000 := by
   rw [hb]; unfold lowL
   split
   ·cases e : insL t h.2.2 with
    | nil => rw [e] at hlen; simp at hlen
    | cons a l =>
     have : a ∈ insL t h.2.2 := by rw [e]; exact List.mem_cons_self
     show _ ≤ a ∧ a ≤ _
     rcases insL_mem.1 this with rfl | hx
     ·omega
     ·have := s2 a hx; omega
   ·omega
  obtain ⟨n, n1, n2, n3⟩ := bump_loop (k := p) (l := w.2.2) (f := h.1) (x := t) (L := insL t h.2.2) hbr.1 hbr.2 (by omega)
  have hcl := clone_ints (l := (insL t h.2.2).drop n) (by rw [List.length_drop]; omega)
  have fin : addH h t = (h.1, ((bumpL b (insL t h.2.2)).1, (insL t h.2.2).drop n)) := by unfold addH; rw [← hb, n3]
  rw [fin]
  simp only [cond_false, Option.bind_some, Nat.beq_refl, cond_true, insertI_eq hi2 (show h.2.2.length ≤ 1000 by omega) hi3]
  by_cases hc16 : 16 < (insL t h.2.2).length
  ·have hb' : b = (insL t h.2.2).getD 0 0 := by rw [hb]; unfold lowL; rw [if_pos hc16]
   rw [← hb']
   have g1 : decide ((((insL t h.2.2).length : Nat) : Int) > 16) = true := decide_eq_true (by omega)
   simp (disch := omega) only [g1, cond_true, wT, Option.bind_some, n1, Nat.beq_refl, cutT n2, Int.toNat_natCast, take_all, hcl]
  ·have hb' : b = h.2.1 := by rw [hb]; unfold lowL; rw [if_neg hc16]
   rw [← hb']
   have g1 : decide ((((insL t h.2.2).length : Nat) : Int) > 16) = false := decide_eq_false (by omega)
   simp (disch := omega) only [g1, cond_true, cond_false, wT, Option.bind_some, n1, Nat.beq_refl, cutT n2, Int.toNat_natCast, take_all, hcl]
theorem hearB_eq {w : RS} {f t : Int} {p : Nat} (hz : szW w) (ho : okW w = true) (hf0 : 0 ≤ f) (hf1 : f ≤ 1073741824) (ht0 : 0 ≤ t) (ht1 : t ≤ 1073741824) (hp : p ≤ w.2.2.length) (hs : g_slices_BinarySearchFunc_Sapi_Heard_api_Heard_int_retry_Hear_1 w.2.2 f = some ((p : Int), false)) :
  g_retry_HearB w f t = some (if 64 ≤ w.2.2.length then (zWq, false, 2) else ((w.1, w.2.1, w.2.2.take p ++ addH (f, 0, []) t :: w.2.2.drop p), true, 0)) := by
 have few := okW_few ho
 have few2 := few
 obtain ⟨f1, f2, f3, f4⟩ := few2
 have hck : g_retry_Check w = some 0 := by rw [retry_Check_eq hz, ho]; rfl
 have hw1 : g_retry_within f 0 1073741824 = some true := by rw [within_eq, decide_eq_true (show f ≥ 0 from hf0), decide_eq_true hf1]; rfl
 have hw2 : g_retry_within t 0 1073741824 = some true := by rw [within_eq, decide_eq_true (show t ≥ 0 from ht0), decide_eq_true ht1]; rfl
 have e0 : ∀ a b : Option (RS × Bool × Int), (bif (0 : Int) != 0 then a else b) = b := fun _ _ => rfl
 unfold g_retry_HearB
 simp only [hck, Option.bind_some, e0, hw1, Bool.not_true, cond_false, hw2, rowned_eq few, hs, Bool.not_false, cond_true]
 by_cases hfull : 64 ≤ w.2.2.length
 ·rw [if_pos hfull, dT (by omega)]; rfl
 ·rw [if_neg hfull, dF (by omega)]
  obtain ⟨i, hi1, hi2, hi3⟩ := bsi_eq (l := []) (x := t) (by simp) List.Pairwise.nil
  have hi0 : i = 0 := by simpa using hi2
  subst hi0
  have hlen : (w.2.2.take p ++ (0, (0, [])) :: w.2.2.drop p : List Hrd).length = w.2.2.length + 1 := by rw [List.length_append, List.length_cons, List.length_take, List.length_drop]; omega
  have hset : ∀ x : Hrd, (w.2.2.take p ++ (0, (0, [])) :: w.2.2.drop p : List Hrd).set p x = w.2.2.take p ++ x :: w.2.2.drop p := by
   intro x
   rw [List.set_append_right _ _ (by rw [List.length_take]; omega)]
   rw [List.length_take, Nat.min_eq_left hp, Nat.sub_self]; rfl
  have hroom : (decide ((0 : Int) ≤ (p : Int)) && decide ((p : Int) ≤ (w.2.2.length : Int)) && room 40 (w.2.2.length + 1)) = true := by
   rw [decide_eq_true (by omega), decide_eq_true (by omega), room_iff.2 (by omega)]; rfl
  have hm : decide (t ∈ ([] : List Int)) = false := decide_eq_false (by simp)
  obtain ⟨n, n1, n2, n3⟩ := bump_loop (k := p) (l := (w.2.2.take p ++ (0, (0, [])) :: w.2.2.drop p)) (f := f) (b := 0) (x := t) (L := insL t []) (by omega) (by omega) (by simp [insL])
  have hcl := clone_ints (l := (insL t []).drop n) (by rw [List.length_drop]; simp [insL]; omega)
  have fin : addH (f, 0, []) t = (f, ((bumpL 0 (insL t [])).1, (insL t []).drop n)) := by
   rw [n3]; unfold addH
   have : lowL 0 (insL t []) = 0 := by unfold lowL; rw [if_neg (by simp [insL])]
   rw [this]
  have g1 : decide ((((insL t []).length : Nat) : Int) > 16) = false := decide_eq_false (by simp [insL])
  have hwt : within (p : Int) (w.2.2.length + 1) = true := within_iff.2 ⟨by omega, by omega⟩
  rw [fin]
  simp only [hroom, cond_true, Int.toNat_natCast, hlen, hwt, Nat.beq_refl, hi1, hm, Option.bind_some, cond_false]
  rw [dF (by omega)]
  simp only [insertI_eq hi2 (by simp) hi3, Option.bind_some, g1, cond_false, hearB_r1, n1, Nat.beq_refl, cond_true, cutT n2, Int.toNat_natCast, take_all, hcl, hset]
theorem Hear_eq {w : RS} {f t : Int} (hz : szW w) (ho : okW w = true) : g_retry_Hear w f t = some (hearP w f t) := by
 have hw := okW_iff.1 ho
 obtain ⟨s1, s2⟩ := heard_sorted hw.2.2.2.2
 obtain ⟨p, h1, h2, h3⟩ := bsf_eq (l := w.2.2) (x := f) (by omega) s1
 by_cases hin : 0 ≤ f ∧ f ≤ 1073741824 ∧ 0 ≤ t ∧ t ≤ 1073741824
 ·obtain ⟨i1, i2, i3, i4⟩ := hin
  by_cases hc : p < w.2.2.length ∧ (w.2.2.getD p (0, 0, [])).1 = f
  ·obtain ⟨a, ha⟩ : ∃ a, w.2.2[p]? = some a := ⟨_, List.getElem?_eq_getElem hc.1⟩
   have hf : a.1 = f := by have := hc.2; rwa [gD ha] at this
   rw [decide_eq_true hc.1, decide_eq_true hc.2] at h1
   have h1 : g_slices_BinarySearchFunc_Sapi_Heard_api_Heard_int_retry_Hear_1 w.2.2 f = some ((p : Int), true) := h1
   have hat : g_retry_Hear_at w f t = some p := by unfold g_retry_Hear_at; rw [h1]; simp
   unfold g_retry_Hear g_retry_Hear_of
   rw [hat]
   simp only
   rw [hearA_eq hz ho i1 i2 i3 i4 ha h1]
   obtain ⟨q1, q2⟩ := put_had (h' := addH a t) hf hf h3 ha
   have hP : hearP w f t = if known a t = true then (w, false, 0) else ((w.1, w.2.1, putH (addH a t) w.2.2), true, 0) := by
    unfold hearP
    rw [if_pos ⟨i1, i2, i3, i4⟩, q2]
   rw [hP, q1]
  ·have hfl : (decide (p < w.2.2.length) && decide ((w.2.2.getD p (0, 0, [])).1 = f)) = false := by
    rw [Bool.and_eq_false_iff, decide_eq_false_iff_not, decide_eq_false_iff_not]
    by_cases h : p < w.2.2.length
    ·exact .inr fun h' => hc ⟨h, h'⟩
    ·exact .inl h
   rw [hfl] at h1
   have hat : g_retry_Hear_at w f t = none := by unfold g_retry_Hear_at; rw [h1]
   unfold g_retry_Hear g_retry_Hear_of
   rw [hat]
   simp only
   rw [hearB_eq hz ho i1 i2 i3 i4 h2 h1]
   obtain ⟨q1, q2⟩ := put_not (f := f) (h' := addH (f, 0, []) t) rfl h2 s1 h3 fun a ha h' => hc ⟨lt_of_get ha, by rw [gD ha]; exact h'⟩
   have hP : hearP w f t = if 64 ≤ w.2.2.length then (zWq, false, 2) else ((w.1, w.2.1, putH (addH (f, 0, []) t) w.2.2), true, 0) := by
    unfold hearP
    rw [if_pos ⟨i1, i2, i3, i4⟩, q2]
   rw [hP, q1]
 ·have hck : g_retry_Check w = some 0 := by rw [retry_Check_eq hz, ho]; rfl
  have e0 : ∀ a b : Option (RS × Bool × Int), (bif (0 : Int) != 0 then a else b) = b := fun _ _ => rfl
  unfold hearP
  rw [if_neg hin]
  have hb : ((decide (f ≥ 0) && decide (f ≤ 1073741824)) && (decide (t ≥ 0) && decide (t ≤ 1073741824))) = false := by
   rw [← Bool.not_eq_true]
   simp only [Bool.and_eq_true, decide_eq_true_eq]
   omega
  unfold g_retry_Hear g_retry_Hear_of
  cases g_retry_Hear_at w f t with
  | none =>
   simp only
   unfold g_retry_HearB
   simp only [hck, Option.bind_some, e0, within_eq]
   cases hb1 : (decide (f ≥ 0) && decide (f ≤ 1073741824)) with
   | false => rfl
   | true =>
    rw [hb1, Bool.true_and] at hb
    rw [hb]; rfl
  | some g =>
   simp only
   unfold g_retry_HearA
   simp only [hck, Option.bind_some, e0, within_eq]
   cases hb1 : (decide (f ≥ 0) && decide (f ≤ 1073741824)) with
   | false => rfl
   | true =>
    rw [hb1, Bool.true_and] at hb
    rw [hb]; rfl
end Go.Sq
namespace Go.Sq
open Go.Rx
theorem find_cons (g : Int) (a : Hrd) (l : List Hrd) : findH g (a :: l) = if a.1 = g then some a else findH g l := rfl
theorem find_put {g : Int} {h : Hrd} : ∀ {l : List Hrd}, findH g (putH h l) = if h.1 = g then some h else findH g l
 | [] => rfl
 | a :: l => by
  rw [putH]
  by_cases h1 : a.1 < h.1
  ·rw [if_pos h1, find_cons, find_put (l := l)]
   by_cases h2 : h.1 = g
   ·rw [if_pos h2, if_neg (by omega), if_pos h2]
   ·rw [if_neg h2, if_neg h2, find_cons]
  ·rw [if_neg h1]
   by_cases h3 : a.1 = h.1
   ·rw [if_pos h3, find_cons]
    by_cases h2 : h.1 = g
    ·rw [if_pos h2, if_pos h2]
    ·rw [if_neg h2, if_neg h2, find_cons, if_neg (by omega)]
   ·rw [if_neg h3, find_cons]
theorem find_key {g : Int} {h : Hrd} : ∀ {l : List Hrd}, findH g l = some h → h.1 = g ∧ h ∈ l
 | [], e => by cases e
 | a :: l, e => by
  rw [findH] at e
  split at e
  ·cases e; exact ⟨by assumption, List.mem_cons_self⟩
  ·exact ⟨(find_key e).1, List.mem_cons_of_mem _ (find_key e).2⟩
theorem put_le {h : Hrd} : ∀ {l : List Hrd}, (putH h l).length ≤ l.length + 1
 | [] => by simp [putH]
 | a :: l => by
  rw [putH]
  split
  ·have := put_le (h := h) (l := l); simp; omega
  ·split <;> simp
theorem put_same {h x : Hrd} : ∀ {l : List Hrd} {b : Int}, okL okHrd (·.1) b l = true → findH h.1 l = some x → (putH h l).length = l.length
 | [], _, _, e => by cases e
 | a :: l, b, ho, e => by
  rw [okL, Bool.and_eq_true] at ho
  rw [putH]
  rw [findH] at e
  by_cases h1 : a.1 = h.1
  ·rw [if_neg (by omega), if_pos h1]; rfl
  ·rw [if_neg h1] at e
   have := (heard_sorted ho.2).2 x (find_key e).2
   have := (find_key e).1
   rw [if_pos (by omega), List.length_cons, put_same ho.2 e]; rfl
theorem put_ok {h : Hrd} {q : Int} (hq : okHrd q h = true) : ∀ {l : List Hrd} {b : Int}, okL okHrd (·.1) b l = true → b < h.1 → okL okHrd (·.1) b (putH h l) = true
 | [], b, _, hb => by
  rw [putH, okL, okL, Bool.and_true]
  obtain ⟨h1, h2⟩ := okHrd_iff.1 hq
  exact okHrd_iff.2 ⟨hb, h2⟩
 | a :: l, b, ho, hb => by
  rw [okL, Bool.and_eq_true] at ho
  obtain ⟨h1, h2⟩ := okHrd_iff.1 hq
  rw [putH]
  split
  ·rename_i hlt
   rw [okL, Bool.and_eq_true]
   exact ⟨ho.1, put_ok hq ho.2 hlt⟩
  ·split
   ·rename_i he
    rw [okL, Bool.and_eq_true]
    exact ⟨okHrd_iff.2 ⟨hb, h2⟩, by rw [← he]; exact ho.2⟩
   ·rw [okL, Bool.and_eq_true, okL, Bool.and_eq_true]
    obtain ⟨a1, a2⟩ := okHrd_iff.1 ho.1
    exact ⟨okHrd_iff.2 ⟨hb, h2⟩, okHrd_iff.2 ⟨by omega, a2⟩, ho.2⟩
def knownW (w : RS) (f t : Int) : Prop := ∃ h, findH f w.2.2 = some h ∧ known h t = true
theorem new_ok {f : Int} (h0 : 0 ≤ f) (h1 : f ≤ 1073741824) : okHrd (-1) (f, 0, []) = true := okHrd_iff.2 ⟨by show -1 < f; omega, h1, by show (0 : Int) ≤ 0; omega, by show (0 : Int) ≤ _; omega, by simp, rfl⟩
theorem hear_cases {w : RS} {f t : Int} (hz : szW w) (ho : okW w = true) : ((hearP w f t).2.1 = false ∧ (hearP w f t).2.2 ≠ 0) ∨
  ((hearP w f t).2.2 = 0 ∧ okW (hearP w f t).1 = true ∧ szW (hearP w f t).1 ∧ (hearP w f t).1.2.1 = w.2.1 ∧ knownW (hearP w f t).1 f t ∧ (∀ f' t', knownW w f' t' → knownW (hearP w f t).1 f' t') ∧ ((hearP w f t).2.1 = true → ¬ knownW w f t) ∧
   hearP (hearP w f t).1 f t = ((hearP w f t).1, false, 0) ∧ ∀ g, g ≠ f → findH g (hearP w f t).1.2.2 = findH g w.2.2) := by
 have hw := okW_iff.1 ho
 obtain ⟨w1, w2, w3, w4, w5⟩ := hw
 by_cases hin : 0 ≤ f ∧ f ≤ 1073741824 ∧ 0 ≤ t ∧ t ≤ 1073741824
 ·obtain ⟨i1, i2, i3, i4⟩ := hin
  have go : ∀ (h : Hrd) (q : Int), h.1 = f → okHrd q h = true → known h t = false → (∀ x, findH f w.2.2 = some x → x = h) → (findH f w.2.2 = none → w.2.2.length < 64) → hearP w f t = ((w.1, w.2.1, putH (addH h t) w.2.2), true, 0) →
    ((hearP w f t).2.2 = 0 ∧ okW (hearP w f t).1 = true ∧ szW (hearP w f t).1 ∧ (hearP w f t).1.2.1 = w.2.1 ∧ knownW (hearP w f t).1 f t ∧ (∀ f' t', knownW w f' t' → knownW (hearP w f t).1 f' t') ∧ ((hearP w f t).2.1 = true → ¬ knownW w f t) ∧
     hearP (hearP w f t).1 f t = ((hearP w f t).1, false, 0) ∧ ∀ g, g ≠ f → findH g (hearP w f t).1.2.2 = findH g w.2.2) := by
   intro h q hf hq hk hx hlen e
   obtain ⟨a1, a2, a3, a4⟩ := add_ok hq i3 i4 hk
   have hfp : findH f (putH (addH h t) w.2.2) = some (addH h t) := by rw [find_put, if_pos (a2.trans hf)]
   have hkn : knownW (w.1, w.2.1, putH (addH h t) w.2.2) f t := ⟨addH h t, hfp, a3⟩
   have hok : okW (w.1, w.2.1, putH (addH h t) w.2.2) = true := by
    refine okW_iff.2 ⟨w1, w2, ?_, w4, put_ok a1 w5 (by rw [a2, hf]; omega)⟩
    show (putH (addH h t) w.2.2).length ≤ 64
    cases e2 : findH f w.2.2 with
    | none => have := hlen e2; have := put_le (h := addH h t) (l := w.2.2); omega
    | some x => rw [put_same (x := x) w5 (by rw [a2, hf]; exact e2)]; exact w3
   rw [e]
   refine ⟨rfl, hok, ⟨hz.1, hz.2.1, by have := (okW_iff.1 hok).2.2.1; exact Nat.le_trans this (by omega), fun x hx' => ?_⟩, rfl, hkn, fun f' t' hk' => ?_, fun _ hk' => ?_, ?_, fun g hg => ?_⟩
   ·have := (okW_few hok).2.2.2 x hx'
    omega
   ·obtain ⟨x, x1, x2⟩ := hk'
    by_cases hff : f' = f
    ·subst hff
     have := hx x x1
     subst this
     exact ⟨_, hfp, a4 _ x2⟩
    ·exact ⟨x, by show findH f' (putH _ _) = _; rw [find_put, if_neg (by rw [a2, hf]; exact fun h => hff h.symm)]; exact x1, x2⟩
   ·obtain ⟨x, x1, x2⟩ := hk'
    rw [hx x x1, hk] at x2; cases x2
   ·show hearP (w.1, w.2.1, putH (addH h t) w.2.2) f t = _
    unfold hearP
    rw [if_pos ⟨i1, i2, i3, i4⟩]
    simp only [hfp]
    rw [if_pos a3]
   ·show findH g (putH _ _) = _
    rw [find_put, if_neg (by rw [a2, hf]; exact fun h => hg h.symm)]
  cases e : findH f w.2.2 with
  | none =>
   by_cases hfull : 64 ≤ w.2.2.length
   ·left
    have : hearP w f t = (zWq, false, 2) := by
     unfold hearP
     rw [if_pos ⟨i1, i2, i3, i4⟩, e]
     simp only [if_pos hfull]
    rw [this]; exact ⟨rfl, by decide⟩
   ·right
    refine go (f, 0, []) (-1) rfl (new_ok i1 i2) ?_ (fun x hx => by rw [e] at hx; cases hx) (fun _ => by omega) ?_
    ·unfold known
     rw [Bool.or_eq_false_iff, decide_eq_false_iff_not, decide_eq_false_iff_not]
     exact ⟨by simp, by show ¬ t < 0; omega⟩
    ·unfold hearP
     rw [if_pos ⟨i1, i2, i3, i4⟩, e]
     simp only [if_neg hfull]
  | some h =>
   right
   obtain ⟨k1, k2⟩ := find_key e
   obtain ⟨_, q, hq⟩ := (heard_sorted w5).2 h k2
   by_cases hk : known h t = true
   ·have : hearP w f t = (w, false, 0) := by
     unfold hearP
     rw [if_pos ⟨i1, i2, i3, i4⟩, e]
     simp only [if_pos hk]
    rw [this]
    exact ⟨rfl, ho, hz, rfl, ⟨h, e, hk⟩, fun _ _ h => h, (fun h => by cases h), this, fun _ _ => rfl⟩
   ·refine go h q k1 hq (by simpa using hk) (fun x hx => by rw [e] at hx; exact (Option.some.inj hx).symm) (fun h' => by rw [e] at h'; cases h') ?_
    unfold hearP
    rw [if_pos ⟨i1, i2, i3, i4⟩, e]
    simp only [if_neg hk]
 ·left
  have : hearP w f t = (zWq, false, 1) := by unfold hearP; rw [if_neg hin]
  rw [this]; exact ⟨rfl, by decide⟩
end Go.Sq
namespace Go.Sq
open Go.Rx
end Go.Sq
namespace Go.Sq
open Go.Rx
end Go.Sq
namespace Go.Sq
open Go.Rx
def overS (n : Int) (s : Snd) : Bool := decide (s.2.2.2 ≤ n) && (s.2.2.1 == 0)
def dueS (n : Int) (s : Snd) : Bool := decide (s.2.2.2 ≤ n)
def againS (n : Int) (s : Snd) : Snd := if s.2.2.2 ≤ n then (s.1, s.2.1, s.2.2.1 - 1, n + 5) else s
def restT (n : Int) (l : List Snd) : List Snd := l.filter (fun s => !overS n s)
def upT (n : Int) (l : List Snd) : List Msg := (l.filter (overS n)).map (fun s => s.2.1)
def againT (n : Int) (l : List Snd) : List Msg := (l.filter (dueS n)).map (fun s => s.2.1)
theorem ovB {p x : Bool} {a : Snd} {n : Int} {u : List Msg} : (bif p then some (a, x, n, u, a, ()) else some (a, false, n, u, a, ()) : Option (Snd × Bool × Int × List Msg × Snd × Unit)) = some (a, p && x, n, u, a, ()) := by cases p <;> rfl
def fewS (l : List Snd) : Prop := l.length ≤ 64 ∧ ∀ s ∈ l, s.2.1.2.2.2.2.2.2.2.2.2.length ≤ 64
theorem tick_none {l : List Snd} {n : Int} (hl : l.length ≤ 1000) (h : ∀ s ∈ l, overS n s = false) : iter g_retry_Tick_r1 (l, (l.length : Int), 0, n, [], ()) = some (.inl (l, n, [], ())) :=
 iter_count (fun i => (l, (l.length : Int), (i : Int), n, [], ())) l.length (fun i hi => by
  obtain ⟨a, ha⟩ : ∃ a, l[i]? = some a := ⟨_, List.getElem?_eq_getElem hi⟩
  have ws : IntKind.i64.wrap ((i : Int) + 1) = ((i + 1 : Nat) : Int) := by rw [wrap_i64 (by omega) (by omega)]; rfl
  have ho : (decide (a.2.2.2 ≤ n) && (a.2.2.1 == 0)) = false := h a (mem_of_get ha)
  simp (disch := omega) only [g_retry_Tick_r1, dT, wT, Int.toNat_natCast, gD ha, ovB, Option.bind_some, ho, cond_false, ws]) (by simp (disch := omega) only [g_retry_Tick_r1, dF])
theorem tick_some {l l1 l2 : List Snd} {a : Snd} {n : Int} (e : l = l1 ++ a :: l2) (hf : fewS l) (h : ∀ s ∈ l1, overS n s = false) (ha : overS n a = true) :
  iter g_retry_Tick_r1 (l, (l.length : Int), 0, n, [], ()) = some (.inr (l, (l1.length : Int), n, [a.2.1], ())) := by
 have hlen : l.length = l1.length + (l2.length + 1) := by rw [e, List.length_append, List.length_cons]
 have hl := hf.1
 refine iter_count (fun i => (l, (l.length : Int), (i : Int), n, [], ())) l1.length (fun i hi => ?_) ?_
 ·obtain ⟨b, hb⟩ : ∃ b, l1[i]? = some b := ⟨_, List.getElem?_eq_getElem hi⟩
  have hb2 : l[i]? = some b := by rw [e, List.getElem?_append_left hi, hb]
  have ws : IntKind.i64.wrap ((i : Int) + 1) = ((i + 1 : Nat) : Int) := by rw [wrap_i64 (by omega) (by omega)]; rfl
  have ho : (decide (b.2.2.2 ≤ n) && (b.2.2.1 == 0)) = false := h b (mem_of_get hb)
  simp (disch := omega) only [g_retry_Tick_r1, dT, wT, Int.toNat_natCast, gD hb2, ovB, Option.bind_some, ho, cond_false, ws]
 ·have hb2 : l[l1.length]? = some a := by rw [e]; simp
  have ho : (decide (a.2.2.2 ≤ n) && (a.2.2.1 == 0)) = true := ha
  have hle := letter_eq (m := a.2.1) (by have := hf.2 a (mem_of_get hb2); omega)
  have hr : room 104 (([] : List Msg) ++ [a.2.1]).length = true := room_iff.2 (by simp)
  simp (disch := omega) only [g_retry_Tick_r1, dT, wT, Int.toNat_natCast, gD hb2, ovB, Option.bind_some, ho, cond_true, hle, hr]
  rfl
theorem tick_compact {l : List Snd} {n : Int} (hf : fewS l) :
  ∀ (k : Nat) (l' : List Snd) (wr i : Nat) (u : List Msg), i + k = l.length → wr ≤ i → l'.length = l.length → l'.take wr = restT n (l.take i) → l'.drop i = l.drop i → u = upT n (l.take i) →
   ∃ (r : List Snd) (wr' : Nat), iter g_retry_Tick_r2 (l', (wr : Int), (i : Int), n, u, ()) = some (r, (wr' : Int), n, upT n l, ()) ∧ r.length = l.length ∧ wr' ≤ l.length ∧ r.take wr' = restT n l
 | 0, l', wr, i, u, hk, hwr, hlen, ht, hd, hu => by
  have hl := hf.1
  have : i = l.length := by omega
  subst this
  rw [List.take_length] at hu ht
  refine ⟨l', wr, iter_inr (by simp (disch := omega) only [g_retry_Tick_r2, dF]; rw [hu]), hlen, hwr, ht⟩
 | k + 1, l', wr, i, u, hk, hwr, hlen, ht, hd, hu => by
  have hl := hf.1
  obtain ⟨a, ha⟩ : ∃ a, l[i]? = some a := ⟨_, List.getElem?_eq_getElem (by omega)⟩
  have ha' := get_of_drop hd ha
  have ws : IntKind.i64.wrap ((i : Int) + 1) = ((i + 1 : Nat) : Int) := by rw [wrap_i64 (by omega) (by omega)]; rfl
  have ww : IntKind.i64.wrap ((wr : Int) + 1) = ((wr + 1 : Nat) : Int) := by rw [wrap_i64 (by omega) (by omega)]; rfl
  have hul : u.length ≤ 64 := by
   rw [hu]; unfold upT
   rw [List.length_map]
   have := List.length_filter_le (overS n) (l.take i)
   rw [List.length_take] at this; omega
  cases he : overS n a with
  | true =>
   have ho : (decide (a.2.2.2 ≤ n) && (a.2.2.1 == 0)) = true := he
   have hle := letter_eq (m := a.2.1) (by have := hf.2 a (mem_of_get ha); omega)
   have hr : room 104 (u ++ [a.2.1]).length = true := room_iff.2 (by simp; omega)
   have hs : g_retry_Tick_r2 (l', (wr : Int), (i : Int), n, u, ()) = some (.inl (l', (wr : Int), ((i + 1 : Nat) : Int), n, u ++ [a.2.1], ())) := by
    simp (disch := omega) only [g_retry_Tick_r2, dT, wT, Int.toNat_natCast, gD ha', ovB, Option.bind_some, ho, cond_true, hle, hr, Bool.not_true, cond_false, ws]
   rw [iter_inl hs]
   refine tick_compact hf k l' wr (i + 1) _ (by omega) (by omega) hlen ?_ (drop_succ_of hd) ?_
   ·unfold restT at ht ⊢
    rw [take_succ_of ha, List.filter_append, ht]
    simp [he]
   ·unfold upT at hu ⊢
    rw [take_succ_of ha, List.filter_append, hu]
    simp [he]
  | false =>
   have ho : (decide (a.2.2.2 ≤ n) && (a.2.2.1 == 0)) = false := he
   have hs : g_retry_Tick_r2 (l', (wr : Int), (i : Int), n, u, ()) = some (.inl (l'.set wr a, ((wr + 1 : Nat) : Int), ((i + 1 : Nat) : Int), n, u, ())) := by
    simp (disch := omega) only [g_retry_Tick_r2, dT, wT, Int.toNat_natCast, gD ha', ovB, Option.bind_some, ho, cond_true, Bool.not_false, cond_false, ws, ww]
   obtain ⟨c1, c2, c3⟩ := compact_step ha hwr hlen (by unfold restT at ht; exact ht) hd
   rw [iter_inl hs]
   refine tick_compact hf k _ (wr + 1) (i + 1) _ (by omega) (by omega) c3 ?_ c2 ?_
   ·unfold restT
    rw [c1, take_succ_of ha, List.filter_append]
    simp [he]
   ·unfold upT at hu ⊢
    rw [take_succ_of ha, List.filter_append, hu]
    simp [he]
theorem tick_again {l : List Snd} {n nx : Int} {H : List Hrd} {z : RS} {u : List Msg} (hf : fewS l) (hn : 0 ≤ n) (hn2 : n ≤ 1099511627776) (hleft : ∀ s ∈ l, -1000 ≤ s.2.2.1 ∧ s.2.2.1 ≤ 1000) :
  iter g_retry_Tick_r3 ([], (l.length : Int), 0, ((nx, l, H) : RS), n, z, u, ()) = some (againT n l, (nx, l.map (againS n), H), z, u, ()) := by
 have hl := hf.1
 have wn : IntKind.i64.wrap (n + 5) = n + 5 := wrap_i64 (by omega) (by omega)
 have := iter_count (f := g_retry_Tick_r3) (fun i => (againT n (l.take i), (l.length : Int), (i : Int), ((nx, (l.take i).map (againS n) ++ l.drop i, H) : RS), n, z, u, ())) l.length (r := (againT n l, (nx, l.map (againS n), H), z, u, ())) (fun i hi => by
  obtain ⟨a, ha⟩ : ∃ a, l[i]? = some a := ⟨_, List.getElem?_eq_getElem hi⟩
  have ws : IntKind.i64.wrap ((i : Int) + 1) = ((i + 1 : Nat) : Int) := by rw [wrap_i64 (by omega) (by omega)]; rfl
  have hml : ((l.take i).map (againS n)).length = i := by rw [List.length_map, List.length_take]; omega
  have hll : ((l.take i).map (againS n) ++ l.drop i).length = l.length := by rw [List.length_append, hml, List.length_drop]; omega
  have hg : ((l.take i).map (againS n) ++ l.drop i)[i]? = some a := by
   rw [List.getElem?_append_right (by omega), hml, Nat.sub_self, drop_cons_of ha]; rfl
  have hset : ∀ x, ((l.take i).map (againS n) ++ l.drop i).set i x = (l.take i).map (againS n) ++ x :: l.drop (i + 1) := by
   intro x
   rw [List.set_append_right _ _ (by omega), hml, Nat.sub_self, drop_cons_of ha]; rfl
  have hg2 : ∀ x, ((l.take i).map (againS n) ++ x :: l.drop (i + 1))[i]? = some x := by
   intro x
   rw [List.getElem?_append_right (by omega), hml, Nat.sub_self]; rfl
  have hset2 : ∀ x y, ((l.take i).map (againS n) ++ x :: l.drop (i + 1)).set i y = (l.take i).map (againS n) ++ y :: l.drop (i + 1) := by
   intro x y
   rw [List.set_append_right _ _ (by omega), hml, Nat.sub_self]; rfl
  have hmap : (l.take (i + 1)).map (againS n) ++ l.drop (i + 1) = (l.take i).map (againS n) ++ againS n a :: l.drop (i + 1) := by rw [take_succ_of ha, List.map_append, List.append_assoc]; rfl
  have hag : againT n (l.take (i + 1)) = againT n (l.take i) ++ (bif dueS n a then [a.2.1] else []) := by
   unfold againT
   rw [take_succ_of ha, List.filter_append, List.map_append]
   cases hd : dueS n a <;> simp [hd]
  have hal : (againT n (l.take i)).length ≤ 64 := by
   unfold againT
   rw [List.length_map]
   have := List.length_filter_le (dueS n) (l.take i)
   rw [List.length_take] at this; omega
  have hle := letter_eq (m := a.2.1) (by have := hf.2 a (mem_of_get ha); omega)
  have hr : room 104 (againT n (l.take i) ++ [a.2.1]).length = true := room_iff.2 (by simp; omega)
  have hlf := hleft a (mem_of_get ha)
  have wl : IntKind.i64.wrap (a.2.2.1 - 1) = a.2.2.1 - 1 := wrap_i64 (by omega) (by omega)
  rw [hmap, hag]
  by_cases hd : a.2.2.2 ≤ n
  ·have e1 : againS n a = (a.1, a.2.1, a.2.2.1 - 1, n + 5) := by unfold againS; rw [if_pos hd]
   have e2 : dueS n a = true := decide_eq_true hd
   rw [e1, e2]
   simp (disch := omega) only [g_retry_Tick_r3, dT, wT, hll, Int.toNat_natCast, gD hg, hle, Option.bind_some, hr, cond_true, hset, gD (hg2 _), hset2, wl, wn, ws]
  ·have e1 : againS n a = a := by unfold againS; rw [if_neg hd]
   have e2 : dueS n a = false := decide_eq_false hd
   rw [e1, e2, ← drop_cons_of ha]
   simp (disch := omega) only [g_retry_Tick_r3, dT, dF, wT, hll, Int.toNat_natCast, gD hg, Option.bind_some, cond_false, List.append_nil, ws]) (by
  simp (disch := omega) only [g_retry_Tick_r3, dF, List.take_length, List.drop_length, List.append_nil])
 have e : againT n [] = [] := rfl
 simpa [e] using this
def tickW (w : RS) (n : Int) : RS := (w.1, (restT n w.2.1).map (againS n), w.2.2)
theorem Tick_eq {w : RS} {n : Int} (hz : szW w) (h : okW w = true) (hn : 0 ≤ n) (hn2 : n ≤ 1099511627776) : g_retry_Tick w n = some (tickW w n, againT n (restT n w.2.1), upT n w.2.1, 0) := by
 have hf := okW_few h
 have h64 := hf.1
 have hfs : fewS w.2.1 := ⟨hf.1, hf.2.1⟩
 have htm : g_retry_timely w n = some true := by
  unfold g_retry_timely
  rw [within_eq, decide_eq_true (show n ≥ 0 from hn), decide_eq_true (show n ≤ 1099511627776 by omega), Option.bind_some, retry_Check_eq hz, h]; rfl
 have hrl : (restT n w.2.1).length ≤ w.2.1.length := List.length_filter_le _ _
 have hfr : fewS (restT n w.2.1) := ⟨by omega, fun s hs => hf.2.1 s (List.mem_filter.1 hs).1⟩
 have hleft : ∀ s ∈ restT n w.2.1, -1000 ≤ s.2.2.1 ∧ s.2.2.1 ≤ 1000 := fun s hs => by
  obtain ⟨p, hp⟩ := okL_mem (okW_iff.1 h).2.2.2.1 s (List.mem_filter.1 hs).1
  unfold okSend at hp
  simp only [Bool.and_eq_true, decide_eq_true_eq] at hp
  have := hp.1.1.2
  omega
 have hag := tick_again (l := restT n w.2.1) (n := n) (nx := w.1) (H := w.2.2) (z := (0, [], [])) (u := upT n w.2.1) hfr hn hn2 hleft
 unfold g_retry_Tick
 rw [htm, Option.bind_some]
 simp only [Bool.not_true, cond_false, rowned_eq hf, Option.bind_some]
 rcases split_first (overS n) w.2.1 with h1 | ⟨l1, a, l2, e, h1, h2⟩
 ·have ef : restT n w.2.1 = w.2.1 := List.filter_eq_self.2 fun s hs => by rw [h1 s hs]; rfl
  have eu : upT n w.2.1 = [] := by
   unfold upT
   rw [List.filter_eq_nil_iff.2 fun s hs => by rw [h1 s hs]; decide]; rfl
  rw [ef, eu] at hag
  simp only [tick_none (by omega) h1, Option.bind_some, beq_self_eq_true, cond_true, hag]
  unfold tickW
  rw [ef, eu]
 ·have hlen : w.2.1.length = l1.length + (l2.length + 1) := by rw [e, List.length_append, List.length_cons]
  have ws : IntKind.i64.wrap ((l1.length : Int) + 1) = ((l1.length + 1 : Nat) : Int) := by rw [wrap_i64 (by omega) (by omega)]; rfl
  have hb2 : w.2.1[l1.length]? = some a := by rw [e]; simp
  have htk : w.2.1.take l1.length = l1 := by rw [e, List.take_left]
  have hr1 : restT n l1 = l1 := List.filter_eq_self.2 fun s hs => by rw [h1 s hs]; rfl
  have hu1 : upT n l1 = [] := by
   unfold upT
   rw [List.filter_eq_nil_iff.2 fun s hs => by rw [h1 s hs]; decide]; rfl
  obtain ⟨r, wr, c1, c2, c3, c4⟩ := tick_compact (l := w.2.1) (n := n) hfs l2.length w.2.1 l1.length (l1.length + 1) [a.2.1] (by omega) (by omega) rfl (by
   rw [take_succ_of hb2, htk]
   unfold restT at hr1 ⊢
   rw [List.filter_append, hr1]; simp [h2]) rfl (by
   rw [take_succ_of hb2, htk]
   unfold upT at hu1 ⊢
   rw [List.filter_append, List.map_append, hu1]; simp [h2])
  simp only [tick_some e hfs h1 h2, Option.bind_some, eF (x := (l1.length : Int)) (y := -1) (by omega), ws, c1]
  have hcl := copyL_len r (List.replicate (((r.length : Int)).toNat - ((wr : Int)).toNat) ((0, ((0, (0, (0, (0, (0, (0, (0, (0, (ByteArray.empty, []))))))))), (0, 0))) : Snd)) wr (by rw [List.length_replicate]; omega)
  have hct := copyL_take r (List.replicate (((r.length : Int)).toNat - ((wr : Int)).toNat) ((0, ((0, (0, (0, (0, (0, (0, (0, (0, (ByteArray.empty, []))))))))), (0, 0))) : Snd)) wr (by omega)
  simp (disch := omega) only [gT, Int.toNat_natCast] at *
  simp only [Option.bind_some, List.drop_zero, Nat.sub_zero, hct, c4, hag]
  rfl
end Go.Sq
namespace Go.Sq
open Go.Rx
theorem fE_app {V : Type} {k k0 : Int} {x : V} {ck : Nat} : ∀ {es : List (Nat × (Int × V))}, findE (fun b => k0 == b) es = none → findE (fun b => k == b) (es ++ [(ck, (k0, x))]) = if k0 = k then some x else findE (fun b => k == b) es
 | [], _ => by
  rw [List.nil_append, findE, findE]
  by_cases h : k0 = k
  ·rw [if_pos h, show (k == k0) = true from beq_iff_eq.2 h.symm]; rfl
  ·rw [if_neg h, show (k == k0) = false from beq_false_of_ne fun h' => h h'.symm]; rfl
 | p :: es, hn => by
  rw [findE] at hn
  rw [List.cons_append, findE, findE]
  cases e1 : (k0 == p.2.1) with
  | true => rw [e1] at hn; cases hn
  | false =>
   rw [e1] at hn
   rw [fE_app hn]
   cases e2 : (k == p.2.1) with
   | true =>
    have : k0 ≠ k := fun h => by rw [h, e2] at e1; cases e1
    rw [cond_true, cond_true, if_neg this]
   | false => rfl
theorem fE_put {V : Type} {k k0 : Int} {x y : V} : ∀ {es : List (Nat × (Int × V))}, findE (fun b => k0 == b) es = some y → findE (fun b => k == b) (putE (fun b => k0 == b) x es) = if k0 = k then some x else findE (fun b => k == b) es
 | [], h => by cases h
 | p :: es, h => by
  rw [findE] at h
  rw [putE, findE]
  cases e1 : (k0 == p.2.1) with
  | true =>
   have h1 : k0 = p.2.1 := eq_of_beq e1
   rw [cond_true, findE]
   by_cases h2 : k0 = k
   ·rw [if_pos h2, show (k == p.2.1) = true from beq_iff_eq.2 (h2.symm.trans h1)]; rfl
   ·rw [if_neg h2, show (k == p.2.1) = false from beq_false_of_ne fun h' => h2 (h1.trans h'.symm)]; rfl
  | false =>
   rw [e1] at h
   rw [cond_false, findE, fE_put h]
   cases e2 : (k == p.2.1) with
   | true =>
    have : k0 ≠ k := fun h => by rw [h, e2] at e1; cases e1
    rw [cond_true, cond_true, if_neg this]
   | false => rfl
theorem fE_ins {V : Type} {k k0 : Int} {x : V} {ck : Nat} {es : List (Nat × (Int × V))} : findE (fun b => k == b) (insE (fun b => k0 == b) k0 x ck es) = if k0 = k then some x else findE (fun b => k == b) es := by
 unfold insE
 cases e : findE (fun b => k0 == b) es with
 | some y => rw [show (some y).isSome = true from rfl, cond_true, fE_put e]
 | none => rw [show (none : Option V).isSome = false from rfl, cond_false, fE_app e]
def keysE {V : Type} (es : List (Nat × (Int × V))) : List Int := es.map (·.2.1)
theorem fE_none {V : Type} {k : Int} : ∀ {es : List (Nat × (Int × V))}, k ∉ keysE es → findE (fun b => k == b) es = none
 | [], _ => rfl
 | p :: es, h => by
  unfold keysE at h
  rw [List.map_cons, List.mem_cons, not_or] at h
  rw [findE, show (k == p.2.1) = false from beq_false_of_ne h.1, cond_false]
  exact fE_none h.2
def goodS (nx : Int) (s : Snd) : Prop := okSend nx (s.1 - 1) s = true
theorem okSend_iff {nx p : Int} {s : Snd} : okSend nx p s = true ↔ p < s.1 ∧ goodS nx s := by
 unfold goodS okSend
 simp only [Bool.and_eq_true, decide_eq_true_eq]
 constructor
 ·rintro ⟨⟨⟨⟨⟨h1, h2⟩, h3⟩, h4⟩, h5⟩, h6⟩
  exact ⟨h1, ⟨⟨⟨⟨by omega, h2⟩, h3⟩, h4⟩, h5⟩, h6⟩
 ·rintro ⟨h1, ⟨⟨⟨⟨_, h2⟩, h3⟩, h4⟩, h5⟩, h6⟩
  exact ⟨⟨⟨⟨⟨h1, h2⟩, h3⟩, h4⟩, h5⟩, h6⟩
theorem sends_iff {nx : Int} : ∀ {l : List Snd} {p : Int}, okL (okSend nx) (·.1) p l = true ↔ (l.Pairwise (fun a b => a.1 < b.1) ∧ ∀ s ∈ l, p < s.1 ∧ goodS nx s)
 | [], p => by simp [okL]
 | a :: l, p => by
  rw [okL, Bool.and_eq_true, sends_iff, okSend_iff, List.pairwise_cons]
  constructor
  ·rintro ⟨⟨h1, h2⟩, h3, h4⟩
   refine ⟨⟨fun x hx => (h4 x hx).1, h3⟩, fun x hx => ?_⟩
   rw [List.mem_cons] at hx
   rcases hx with rfl | hx
   ·exact ⟨h1, h2⟩
   ·exact ⟨by have := (h4 x hx).1; omega, (h4 x hx).2⟩
  ·rintro ⟨⟨h1, h2⟩, h3⟩
   exact ⟨h3 a List.mem_cons_self, h2, fun x hx => ⟨h1 x hx, (h3 x (List.mem_cons_of_mem _ hx)).2⟩⟩
theorem good_bounds {nx : Int} {s : Snd} (h : goodS nx s) : 0 ≤ s.2.2.1 ∧ s.2.2.1 ≤ 4 ∧ s.1 < nx := by
 unfold goodS okSend at h
 simp only [Bool.and_eq_true, decide_eq_true_eq] at h
 omega
theorem good_again {nx n : Int} {s : Snd} (h : goodS nx s) (hn : 0 ≤ n) (hn2 : n ≤ 1099511627776) (ho : overS n s = false) : goodS nx (againS n s) := by
 unfold againS
 by_cases hd : s.2.2.2 ≤ n
 ·rw [if_pos hd]
  have hl : s.2.2.1 ≠ 0 := fun e => by
   unfold overS at ho
   rw [decide_eq_true hd, e] at ho; cases ho
  unfold goodS okSend at *
  simp only [Bool.and_eq_true, decide_eq_true_eq] at *
  obtain ⟨⟨⟨⟨h1, h2⟩, h3⟩, h4⟩, h5⟩ := h
  exact ⟨⟨⟨⟨h1, h2⟩, by omega⟩, by omega⟩, h5⟩
 ·rw [if_neg hd]; exact h
theorem again_1 (n : Int) (s : Snd) : (againS n s).1 = s.1 := by unfold againS; split <;> rfl
theorem again_M (n : Int) (s : Snd) : (againS n s).2.1 = s.2.1 := by unfold againS; split <;> rfl
theorem tick_ok {w : RS} {n : Int} (h : okW w = true) (hn : 0 ≤ n) (hn2 : n ≤ 1099511627776) : okW (tickW w n) = true := by
 rw [okW_iff] at *
 obtain ⟨a, b, c, d, e⟩ := h
 rw [sends_iff] at d
 refine ⟨a, ?_, c, sends_iff.2 ⟨?_, fun s hs => ?_⟩, e⟩
 ·show ((restT n w.2.1).map (againS n)).length ≤ 64
  rw [List.length_map]
  have := List.length_filter_le (fun s => !overS n s) w.2.1
  unfold restT; omega
 ·show ((restT n w.2.1).map (againS n)).Pairwise _
  rw [List.pairwise_map]
  refine List.Pairwise.imp (fun {a b} hab => ?_) (List.Pairwise.filter _ d.1)
  rw [again_1, again_1]; exact hab
 ·obtain ⟨s0, h0, rfl⟩ := List.mem_map.1 (show s ∈ (restT n w.2.1).map (againS n) from hs)
  obtain ⟨h1, h2⟩ := List.mem_filter.1 h0
  have := d.2 s0 h1
  exact ⟨by rw [again_1]; exact this.1, good_again this.2 hn hn2 (by simpa using h2)⟩
theorem tick_sz {w : RS} {n : Int} (hz : szW w) : szW (tickW w n) := by
 obtain ⟨a, b, c, d⟩ := hz
 refine ⟨?_, fun s hs => ?_, c, d⟩
 ·show ((restT n w.2.1).map (againS n)).length ≤ _
  rw [List.length_map]
  exact Nat.le_trans (List.length_filter_le _ _) a
 ·obtain ⟨s0, h0, rfl⟩ := List.mem_map.1 (show s ∈ (restT n w.2.1).map (againS n) from hs)
  rw [again_M]
  exact b s0 (List.mem_filter.1 h0).1
theorem answer_ok {w : RS} {n : Int} (h : okW w = true) : okW (answerW w n) = true := by
 rw [okW_iff] at *
 obtain ⟨a, b, c, d, e⟩ := h
 rw [sends_iff] at d
 refine ⟨a, Nat.le_trans (List.length_filter_le _ _) b, c, sends_iff.2 ⟨List.Pairwise.filter _ d.1, fun s hs => d.2 s (List.mem_filter.1 (show s ∈ w.2.1.filter (fun s => !(s.1 == n)) from hs)).1⟩, e⟩
theorem answer_sz {w : RS} {n : Int} (hz : szW w) : szW (answerW w n) := by
 obtain ⟨a, b, c, d⟩ := hz
 exact ⟨Nat.le_trans (List.length_filter_le _ _) a, fun s hs => b s (List.mem_filter.1 (show s ∈ w.2.1.filter (fun s => !(s.1 == n)) from hs)).1, c, d⟩
end Go.Sq
namespace Go.Sq
open Go.Rx
abbrev OpT := Int × Int × Int × Msg
abbrev TellT := Bool × Int × List Int × List (List Msg)
structure TrI (now : Int) (i : Nat) (mn : List (Nat × (Int × Int))) (op : List (Nat × (Int × Bool))) (w : RS) : Prop where
 sz : szW w
 ok : okW w = true
 n0 : 0 ≤ now
 n1 : now ≤ 20 * (i : Int)
 at_ : ∀ s ∈ w.2.1, s.2.2.2 ≤ now + 5
 many : ∀ s ∈ w.2.1, findE (fun b => s.1 == b) mn = some (4 - s.2.2.1)
 fresh : ∀ k, w.1 ≤ k → findE (fun b => k == b) mn = none
 keys : (keysE op).Perm (w.2.1.map (·.1))
 vals : ∀ e ∈ op, e.2.2 = true
theorem TrI.len {now : Int} {i : Nat} {mn : List (Nat × (Int × Int))} {op : List (Nat × (Int × Bool))} {w : RS} (h : TrI now i mn op w) : op.length = w.2.1.length := by
 have := h.keys.length_eq
 unfold keysE at this
 rwa [List.length_map, List.length_map] at this
theorem TrI.next {now now' : Int} {i : Nat} {mn : List (Nat × (Int × Int))} {op : List (Nat × (Int × Bool))} {w : RS} (h : TrI now i mn op w) (h1 : now ≤ now') (h2 : now' ≤ now + 20) : TrI now' (i + 1) mn op w :=
 ⟨h.sz, h.ok, by have := h.n0; omega, by have := h.n1; omega, fun s hs => by have := h.at_ s hs; omega, h.many, h.fresh, h.keys, h.vals⟩
theorem TrI.post {now : Int} {i : Nat} {mn : List (Nat × (Int × Int))} {op : List (Nat × (Int × Bool))} {w : RS} {m : Msg} {ck ck2 : Nat} (h : TrI now i mn op w) (hm : szM m) (hmo : okM (noM m w.1) = true) (h1 : w.1 ≠ 1073741824) (h2 : w.2.1.length < 64) (hi : i ≤ 1000) :
  TrI now i (insE (fun b : Int => w.1 == b) w.1 0 ck mn) (insE (fun b : Int => w.1 == b) w.1 true ck2 op) (sentW w m now) := by
 have n0 := h.n0
 have n1 := h.n1
 have hw := okW_iff.1 h.ok
 have hlt := sends_lt hw.2.2.2.1
 have hnk : w.1 ∉ keysE op := fun hk => by
  obtain ⟨s, hs, e⟩ := List.mem_map.1 (h.keys.subset hk)
  have := (hlt s hs).2
  omega
 have hins : insE (fun b : Int => w.1 == b) w.1 true ck2 op = op ++ [(ck2, (w.1, true))] := by unfold insE; rw [fE_none hnk]; rfl
 refine ⟨sent_sz h.sz hm h2, sent_ok h.ok hmo h1 h2 n0 (by omega), n0, n1, fun s hs => ?_, fun s hs => ?_, fun k hk => ?_, ?_, fun e he => ?_⟩
 ·rcases List.mem_append.1 hs with hs | hs
  ·exact h.at_ s hs
  ·rw [List.mem_singleton.1 hs]; exact Int.le_refl _
 ·rw [fE_ins]
  rcases List.mem_append.1 hs with hs | hs
  ·have := (hlt s hs).2
   rw [if_neg (by omega)]
   exact h.many s hs
  ·rw [List.mem_singleton.1 hs, if_pos rfl]; rfl
 ·have hk : w.1 + 1 ≤ k := hk
  rw [fE_ins, if_neg (by omega)]
  exact h.fresh k (by omega)
 ·rw [hins]
  unfold keysE
  rw [List.map_append]
  show List.Perm _ ((w.2.1 ++ [(w.1, noM m w.1, 4, now + 5)]).map (fun s : Snd => s.1))
  rw [List.map_append]
  exact h.keys.append_right _
 ·rw [hins] at he
  rcases List.mem_append.1 he with he | he
  ·exact h.vals e he
  ·rw [List.mem_singleton.1 he]
end Go.Sq
namespace Go.Sq
open Go.Rx
end Go.Sq
namespace Go.Sq
open Go.Rx
theorem hear_sends {w : RS} {f t : Int} (hz : szW w) (ho : okW w = true) (h : (hearP w f t).2.2 = 0) : okW (hearP w f t).1 = true ∧ szW (hearP w f t).1 ∧ (hearP w f t).1.2.1 = w.2.1 := by
 rcases hear_cases (f := f) (t := t) hz ho with ⟨_, c⟩ | ⟨_, c2, c3, c4, _⟩
 ·exact absurd h c
 ·exact ⟨c2, c3, c4⟩
end Go.Sq
namespace Go.Sq
open Go.Rx
end Go.Sq
namespace Go.Sq
open Go.Rx
theorem timely_all {w : RS} {t : Int} (hz : szW w) : g_retry_timely w t = some ((decide (t ≥ 0) && decide (t ≤ 1099511627776)) && okW w) := by
 unfold g_retry_timely
 rw [within_eq, Option.bind_some]
 cases (decide (t ≥ 0) && decide (t ≤ 1099511627776)) with
 | false => rfl
 | true =>
  simp only [cond_true, retry_Check_eq hz, Option.bind_some, Bool.true_and]
  cases okW w <;> rfl
theorem filt_step {A : Type} {p : A → Bool} {l : List A} {i : Nat} {a : A} (h : l[i]? = some a) : (l.take (i + 1)).filter p = (l.take i).filter p ++ (bif p a then [a] else []) := by
 rw [take_succ_of h, List.filter_append]
 cases hp : p a <;> simp [hp]
theorem filt_len {A : Type} (p : A → Bool) (l : List A) (i : Nat) : ((l.take i).filter p).length ≤ l.length := by
 have h1 := List.length_filter_le p (l.take i)
 rw [List.length_take] at h1
 omega
theorem Copy17_eq {w : RS} (h : fewW w) : g_r17_Copy w = some w := by
 obtain ⟨h1, h2, h3, h4⟩ := h
 have hr : room 128 w.2.1.length = true := room_iff.2 (by omega)
 have l1 : iter g_r17_Copy_r1 ([], w.2.2, (w.2.2.length : Int), 0, w, (0, ([], [])), ()) = some (w.2.2, w, (0, ([], [])), ()) := by
  have := iter_count (f := g_r17_Copy_r1) (fun i => (w.2.2.take i, w.2.2, (w.2.2.length : Int), (i : Int), w, ((0, ([], [])) : RS), ())) w.2.2.length (r := (w.2.2, w, (0, ([], [])), ())) (fun i hi => by
   obtain ⟨a, ha⟩ : ∃ a, w.2.2[i]? = some a := ⟨_, List.getElem?_eq_getElem hi⟩
   have ws : IntKind.i64.wrap ((i : Int) + 1) = ((i + 1 : Nat) : Int) := by rw [wrap_i64 (by omega) (by omega)]; rfl
   have r1 : room 8 a.2.2.length = true := room_iff.2 (by have := h4 a (mem_of_get ha); omega)
   have r2 : room 40 (w.2.2.take i ++ [a]).length = true := room_iff.2 (by rw [List.length_append, List.length_take, List.length_singleton]; omega)
   rw [take_succ_of ha]
   simp (disch := omega) only [g_r17_Copy_r1, dT, wT, Int.toNat_natCast, gD ha, r1, r2, cond_true, ws]) (by simp (disch := omega) only [g_r17_Copy_r1, dF, List.take_length])
  exact this
 unfold g_r17_Copy
 rw [hr, cond_true, l1]; rfl
def inT (t : Int) : Bool := decide (t ≥ 0) && decide (t ≤ 1099511627776)
def postG (w : RS) (m : Msg) (t : Int) : RS × Msg × Int := bif inT t && okW w then postW w m t else (zWq, zM, 1)
theorem inT_T {t : Int} (h : inT t = true) : 0 ≤ t ∧ t ≤ 1099511627776 := by
 unfold inT at h
 rw [Bool.and_eq_true, decide_eq_true_eq, decide_eq_true_eq] at h
 exact h
theorem Post_all {w : RS} {m : Msg} {t : Int} (hz : szW w) (hm : szM m) : g_retry_Post w m t = some (postG w m t) := by
 unfold postG
 cases h : inT t && okW w with
 | true =>
  rw [Bool.and_eq_true] at h
  exact Post_eq hz hm h.2 (inT_T h.1).1 (inT_T h.1).2
 | false =>
  have ht : g_retry_timely w t = some false := by rw [timely_all hz, ← h]; rfl
  unfold g_retry_Post
  rw [ht]; rfl
theorem neg_inT (t : Int) : (bif decide (t < 0) then true else decide (t > 1099511627776)) = !inT t := by
 unfold inT
 by_cases h1 : t < 0
 ·rw [decide_eq_true h1, decide_eq_false (show ¬ t ≥ 0 by omega)]; rfl
 ·rw [decide_eq_false h1, decide_eq_true (show t ≥ 0 by omega)]
  by_cases h2 : t > 1099511627776
  ·rw [decide_eq_true h2, decide_eq_false (show ¬ t ≤ 1099511627776 by omega)]; rfl
  ·rw [decide_eq_false h2, decide_eq_true (show t ≤ 1099511627776 by omega)]; rfl
theorem r17_Post_eq {w : RS} {m : Msg} {t : Int} (hz : szW w) (hm : szM m) : g_r17_Post w m t = some (postG w m t) := by
 have hc : g_r15_Check (m.1, (m.2.1, (m.2.2.1, (m.2.2.2.1, (w.1, m.2.2.2.2.2))))) = some (err (okM (noM m w.1))) := r15_Check_eq (m := noM m w.1) hm.1
 have hn := neg_inT t
 unfold g_r17_Post postG
 rw [r17_Check_eq hz, Option.bind_some]
 cases ho : okW w with
 | false => rw [Bool.and_false]; rfl
 | true =>
  rw [Bool.and_true]
  have e0 : (err true != 0) = false := rfl
  rw [e0, cond_false]
  by_cases h1 : t < 0
  ·have : inT t = false := by unfold inT; rw [decide_eq_false (show ¬ t ≥ 0 by omega)]; rfl
   rw [dT h1, this]; rfl
  by_cases h2 : t > 1099511627776
  ·have : inT t = false := by unfold inT; rw [decide_eq_false (show ¬ t ≤ 1099511627776 by omega), Bool.and_false]
   rw [dF h1, dT h2, this]; rfl
  have hin : inT t = true := by unfold inT; rw [decide_eq_true (show t ≥ 0 by omega), decide_eq_true (show t ≤ 1099511627776 by omega)]; rfl
  rw [dF h1, dF h2, hin, hc]
  have hf := okW_few ho
  have hw1 := (okW_iff.1 ho).1
  unfold postW
  cases hk : okM (noM m w.1) with
  | false => rfl
  | true =>
   simp only [Option.bind_some, e0, cond_false, cond_true, Bool.not_true]
   by_cases ha : w.1 = 1073741824
   ·simp only [eT ha, Option.bind_some, cond_true, beq_iff_eq.2 ha, Bool.true_or]; rfl
   ·simp only [eF ha, Option.bind_some, beq_false_of_ne ha, Bool.false_or]
    by_cases hb : (w.2.1.length : Int) ≥ 64
    ·simp only [decide_eq_true hb, cond_true]; rfl
    ·simp only [decide_eq_false hb, cond_false]
     have hr : room 128 (w.2.1 ++ [(w.1, (noM m w.1, (4, t + 5)))]).length = true := room_iff.2 (by rw [List.length_append, List.length_singleton]; omega)
     have hr : room 128 (w.2.1 ++ [(w.1, ((m.1, (m.2.1, (m.2.2.1, (m.2.2.2.1, (w.1, m.2.2.2.2.2))))), (4, t + 5)))]).length = true := hr
     simp only [cond_false, Copy17_eq hf, Option.bind_some, wrap_i64 (n := t + 5) (by omega) (by omega), hr, cond_true, wrap_i64 (n := w.1 + 1) (by omega) (by omega)]
     rfl
def tickG (w : RS) (t : Int) : RS × List Msg × List Msg × Int := bif inT t && okW w then (tickW w t, againT t (restT t w.2.1), upT t w.2.1, 0) else (zWq, [], [], 1)
theorem Tick_all {w : RS} {t : Int} (hz : szW w) : g_retry_Tick w t = some (tickG w t) := by
 unfold tickG
 cases h : inT t && okW w with
 | true =>
  rw [Bool.and_eq_true] at h
  exact Tick_eq hz h.2 (inT_T h.1).1 (inT_T h.1).2
 | false =>
  have ht : g_retry_timely w t = some false := by rw [timely_all hz, ← h]; rfl
  unfold g_retry_Tick
  rw [ht]; rfl
theorem again_rest (n : Int) (l : List Snd) (a : Snd) : againT n (restT n (l ++ [a])) = againT n (restT n l) ++ (bif dueS n a && !overS n a then [a.2.1] else []) := by
 unfold againT restT
 rw [List.filter_append, List.filter_append, List.map_append]
 cases h1 : overS n a <;> cases h2 : dueS n a <;> simp [h1, h2]
theorem rest_map (n : Int) (l : List Snd) (a : Snd) : (restT n (l ++ [a])).map (againS n) = (restT n l).map (againS n) ++ (bif overS n a then [] else [againS n a]) := by
 unfold restT
 rw [List.filter_append, List.map_append]
 cases h1 : overS n a <;> simp [h1]
theorem up_app (n : Int) (l : List Snd) (a : Snd) : upT n (l ++ [a]) = upT n l ++ (bif overS n a then [a.2.1] else []) := by
 unfold upT
 rw [List.filter_append, List.map_append]
 cases h1 : overS n a <;> simp [h1]
theorem ref_tick {w q : RS} {n : Int} (h64 : w.2.1.length ≤ 64) (hn : 0 ≤ n) (hn2 : n ≤ 1099511627776) (hleft : ∀ s ∈ w.2.1, 0 ≤ s.2.2.1 ∧ s.2.2.1 ≤ 4) :
  iter g_r17_Tick_r1 (n, [], [], w.2.1, (w.2.1.length : Int), 0, q, (w.1, ([], w.2.2)), ()) = some (againT n (restT n w.2.1), upT n w.2.1, q, tickW w n, ()) := by
 have wn : IntKind.i64.wrap (n + 5) = n + 5 := wrap_i64 (by omega) (by omega)
 have := iter_count (f := g_r17_Tick_r1) (fun i => (n, againT n (restT n (w.2.1.take i)), upT n (w.2.1.take i), w.2.1, (w.2.1.length : Int), (i : Int), q, ((w.1, ((restT n (w.2.1.take i)).map (againS n), w.2.2)) : RS), ())) w.2.1.length (r := (againT n (restT n w.2.1), upT n w.2.1, q, tickW w n, ())) (fun i hi => by
  obtain ⟨a, ha⟩ : ∃ a, w.2.1[i]? = some a := ⟨_, List.getElem?_eq_getElem hi⟩
  have ws : IntKind.i64.wrap ((i : Int) + 1) = ((i + 1 : Nat) : Int) := by rw [wrap_i64 (by omega) (by omega)]; rfl
  have hlf := hleft a (mem_of_get ha)
  have wl : IntKind.i64.wrap (a.2.2.1 - 1) = a.2.2.1 - 1 := wrap_i64 (by omega) (by omega)
  have b0 : (restT n (w.2.1.take i)).length ≤ 64 := by have := filt_len (fun s => !overS n s) w.2.1 i; unfold restT; omega
  have b1 : (againT n (restT n (w.2.1.take i))).length ≤ 64 := by
   unfold againT
   rw [List.length_map]
   have := List.length_filter_le (dueS n) (restT n (w.2.1.take i)); omega
  have b2 : (upT n (w.2.1.take i)).length ≤ 64 := by
   unfold upT
   rw [List.length_map]
   have := filt_len (overS n) w.2.1 i; omega
  have r0 : ∀ x, room 128 ((restT n (w.2.1.take i)).map (againS n) ++ [x]).length = true := fun x => room_iff.2 (by rw [List.length_append, List.length_map, List.length_singleton]; omega)
  have r1 : room 104 (againT n (restT n (w.2.1.take i)) ++ [a.2.1]).length = true := room_iff.2 (by rw [List.length_append, List.length_singleton]; omega)
  have r2 : room 104 (upT n (w.2.1.take i) ++ [a.2.1]).length = true := room_iff.2 (by rw [List.length_append, List.length_singleton]; omega)
  rw [take_succ_of ha, again_rest, rest_map, up_app]
  by_cases hd : a.2.2.2 > n
  ·have o1 : overS n a = false := by unfold overS; rw [decide_eq_false (by omega)]; rfl
   have o2 : dueS n a = false := decide_eq_false (by omega)
   have o3 : againS n a = a := by unfold againS; rw [if_neg (by omega)]
   rw [o1, o2, o3]
   simp (disch := omega) only [g_r17_Tick_r1, dT, wT, Int.toNat_natCast, gD ha, r0, cond_true, cond_false, Option.bind_some, ws, Bool.false_and, List.append_nil]
  ·have o2 : dueS n a = true := decide_eq_true (by omega)
   by_cases h0 : a.2.2.1 = 0
   ·have o1 : overS n a = true := by unfold overS; rw [decide_eq_true (by omega), h0]; rfl
    rw [o1, o2]
    simp (disch := omega) only [g_r17_Tick_r1, dT, dF, wT, Int.toNat_natCast, gD ha, eT h0, r2, cond_true, cond_false, Option.bind_some, ws, Bool.not_true, Bool.and_false, List.append_nil]
   ·have o1 : overS n a = false := by unfold overS; rw [beq_false_of_ne h0, Bool.and_false]
    have o3 : againS n a = (a.1, a.2.1, a.2.2.1 - 1, n + 5) := by unfold againS; rw [if_pos (by omega)]
    rw [o1, o2, o3]
    simp (disch := omega) only [g_r17_Tick_r1, dT, dF, wT, Int.toNat_natCast, gD ha, eF h0, r0, r1, cond_true, cond_false, Option.bind_some, ws, wl, wn, Bool.not_false, Bool.and_true, List.append_nil]) (by
  simp (disch := omega) only [g_r17_Tick_r1, dF, List.take_length]
  rfl)
 exact this
theorem r17_Tick_eq {w : RS} {t : Int} (hz : szW w) : g_r17_Tick w t = some (tickG w t) := by
 unfold g_r17_Tick tickG
 rw [r17_Check_eq hz, Option.bind_some]
 cases ho : okW w with
 | false => rw [Bool.and_false]; rfl
 | true =>
  have e0 : (err true != 0) = false := rfl
  rw [Bool.and_true, e0, cond_false]
  by_cases h1 : t < 0
  ·have : inT t = false := by unfold inT; rw [decide_eq_false (show ¬ t ≥ 0 by omega)]; rfl
   rw [dT h1, this]; rfl
  by_cases h2 : t > 1099511627776
  ·have : inT t = false := by unfold inT; rw [decide_eq_false (show ¬ t ≤ 1099511627776 by omega), Bool.and_false]
   rw [dF h1, decide_eq_true h2, this]; rfl
  have hin : inT t = true := by unfold inT; rw [decide_eq_true (show t ≥ 0 by omega), decide_eq_true (show t ≤ 1099511627776 by omega)]; rfl
  have hf := okW_few ho
  have hs := sends_iff.1 (okW_iff.1 ho).2.2.2.1
  rw [dF h1, decide_eq_false h2, hin]
  simp only [Option.bind_some, cond_false, cond_true, Copy17_eq hf, ref_tick hf.1 (show 0 ≤ t by omega) (show t ≤ 1099511627776 by omega) (fun s h => by have := good_bounds (hs.2 s h).2; omega)]
def answerG (w : RS) (n : Int) : RS × Bool × Int := bif okW w then (answerW w n, decide ((answerW w n).2.1.length < w.2.1.length), 0) else (zWq, false, 1)
theorem Answered_all {w : RS} {n : Int} (hz : szW w) : g_retry_Answered w n = some (answerG w n) := by
 unfold answerG
 cases h : okW w with
 | true => exact Answered_eq hz h
 | false =>
  unfold g_retry_Answered
  rw [retry_Check_eq hz, h]; rfl
theorem r17_Answered_eq {w : RS} {n : Int} (hz : szW w) : g_r17_Answered w n = some (answerG w n) := by
 unfold g_r17_Answered answerG
 rw [r17_Check_eq hz, Option.bind_some]
 cases ho : okW w with
 | false => rfl
 | true =>
  have hf := okW_few ho
  have h64 := hf.1
  have e0 : (err true != 0) = false := rfl
  have l1 : iter g_r17_Answered_r1 (n, w.2.1, (w.2.1.length : Int), 0, w, (0, ([], [])), (w.1, ([], w.2.2)), ()) = some (w, (0, ([], [])), answerW w n, ()) := by
   have := iter_count (f := g_r17_Answered_r1) (fun i => (n, w.2.1, (w.2.1.length : Int), (i : Int), w, ((0, ([], [])) : RS), ((w.1, ((w.2.1.take i).filter (fun s => !(s.1 == n)), w.2.2)) : RS), ())) w.2.1.length (r := (w, (0, ([], [])), answerW w n, ())) (fun i hi => by
    obtain ⟨a, ha⟩ : ∃ a, w.2.1[i]? = some a := ⟨_, List.getElem?_eq_getElem hi⟩
    have ws : IntKind.i64.wrap ((i : Int) + 1) = ((i + 1 : Nat) : Int) := by rw [wrap_i64 (by omega) (by omega)]; rfl
    have r0 : room 128 ((w.2.1.take i).filter (fun s => !(s.1 == n)) ++ [a]).length = true := room_iff.2 (by have := filt_len (fun s : Snd => !(s.1 == n)) w.2.1 i; rw [List.length_append, List.length_singleton]; omega)
    rw [filt_step ha]
    by_cases he : a.1 = n
    ·have hb : (a.1 == n) = true := beq_iff_eq.2 he
     rw [hb]
     simp (disch := omega) only [g_r17_Answered_r1, dT, wT, Int.toNat_natCast, gD ha, nF he, Option.bind_some, ws, Bool.not_true, cond_false, List.append_nil]
    ·have hb : (a.1 == n) = false := beq_false_of_ne he
     rw [hb]
     simp (disch := omega) only [g_r17_Answered_r1, dT, wT, Int.toNat_natCast, gD ha, nT he, r0, cond_true, Option.bind_some, ws, Bool.not_false]) (by
    simp (disch := omega) only [g_r17_Answered_r1, dF, List.take_length]
    rfl)
   exact this
  rw [e0, cond_false, Copy17_eq hf, Option.bind_some, l1]
  have e3 : decide (((answerW w n).2.1.length : Int) < (w.2.1.length : Int)) = decide ((answerW w n).2.1.length < w.2.1.length) := decide_eq_decide.2 Int.ofNat_lt
  simp only [Option.bind_some, e3, cond_true]
def waitG (w : RS) (ks : List Int) : List Int := bif okW w then waitL ks w.2.1 else []
theorem Waiting_all {w : RS} {ks : List Int} (hz : szW w) (hk : ks.length ≤ 1000) : g_retry_Waiting w ks = some (waitG w ks) := by
 unfold waitG
 cases h : okW w with
 | true => exact Waiting_eq hz h hk
 | false =>
  unfold g_retry_Waiting
  rw [retry_Check_eq hz, h]; rfl
theorem in_eq {l : List Int} {x : Int} (hl : l.length ≤ 1000) : g_r17_in l x = some (decide (x ∈ l)) := by
 have loop : ∃ r, iter g_r17_in_r1 (x, l, (l.length : Int), 0, ()) = some r ∧ ((r = .inl () ∧ x ∉ l) ∨ (r = .inr (true, ()) ∧ x ∈ l)) := by
  refine iter_ex (f := g_r17_in_r1) (fun y => (y.2.2.1 - y.2.2.2.1).toNat) (fun y => ∃ i : Nat, y = (x, l, (l.length : Int), (i : Int), ()) ∧ i ≤ l.length ∧ x ∉ l.take i) (fun r => (r = .inl () ∧ x ∉ l) ∨ (r = .inr (true, ()) ∧ x ∈ l)) ?_ _ ⟨0, rfl, Nat.zero_le _, by simp⟩
  rintro y ⟨i, rfl, hi, hx⟩
  by_cases h : i < l.length
  ·obtain ⟨a, ha⟩ : ∃ a, l[i]? = some a := ⟨_, List.getElem?_eq_getElem h⟩
   by_cases hc : a = x
   ·right
    refine ⟨_, ?_, .inr ⟨rfl, by rw [← hc]; exact mem_of_get ha⟩⟩
    simp (disch := omega) only [g_r17_in_r1, dT, wT, Int.toNat_natCast, gD ha, eT hc]
   ·left
    have ws : IntKind.i64.wrap ((i : Int) + 1) = ((i + 1 : Nat) : Int) := by rw [wrap_i64 (by omega) (by omega)]; rfl
    refine ⟨(x, l, (l.length : Int), ((i + 1 : Nat) : Int), ()), ?_, ⟨i + 1, rfl, h, ?_⟩, by simp only; omega⟩
    ·simp (disch := omega) only [g_r17_in_r1, dT, wT, Int.toNat_natCast, gD ha, eF hc, ws]
    ·rw [take_succ_of ha, List.mem_append, List.mem_singleton, not_or]
     exact ⟨hx, fun h => hc h.symm⟩
  ·right
   refine ⟨_, ?_, .inl ⟨rfl, ?_⟩⟩
   ·simp (disch := omega) only [g_r17_in_r1, dF]
   ·rwa [List.take_of_length_le (by omega)] at hx
 obtain ⟨r, h1, h2⟩ := loop
 unfold g_r17_in
 rw [h1, Option.bind_some]
 rcases h2 with ⟨rfl, h2⟩ | ⟨rfl, h2⟩
 ·rw [decide_eq_false h2]
 ·rw [decide_eq_true h2]
theorem r17_Waiting_eq {w : RS} {ks : List Int} (hz : szW w) (hk : ks.length ≤ 1000) : g_r17_Waiting w ks = some (waitG w ks) := by
 unfold g_r17_Waiting waitG
 rw [r17_Check_eq hz, Option.bind_some]
 cases ho : okW w with
 | false => rfl
 | true =>
  have hf := okW_few ho
  have h64 := hf.1
  have e0 : (err true != 0) = false := rfl
  have l1 : iter g_r17_Waiting_r1 (ks, [], w.2.1, (w.2.1.length : Int), 0, ()) = some (waitL ks w.2.1, ()) := by
   have := iter_count (f := g_r17_Waiting_r1) (fun i => (ks, waitL ks (w.2.1.take i), w.2.1, (w.2.1.length : Int), (i : Int), ())) w.2.1.length (r := (waitL ks w.2.1, ())) (fun i hi => by
    obtain ⟨a, ha⟩ : ∃ a, w.2.1[i]? = some a := ⟨_, List.getElem?_eq_getElem hi⟩
    have ws : IntKind.i64.wrap ((i : Int) + 1) = ((i + 1 : Nat) : Int) := by rw [wrap_i64 (by omega) (by omega)]; rfl
    have r0 : room 8 (waitL ks (w.2.1.take i) ++ [a.1]).length = true := room_iff.2 (by have := waitL_le ks (w.2.1.take i); rw [List.length_take] at this; rw [List.length_append, List.length_singleton]; omega)
    rw [waitL_take ha]
    have hin := in_eq (x := a.2.1.1) hk
    have hwp : waitP ks a = (bif ((ks.length : Int) == 0) then true else decide (a.2.1.1 ∈ ks)) := by
     unfold waitP
     have h1 : ((ks.length : Int) == 0) = (ks.length == 0) := by
      by_cases h : ks.length = 0
      ·rw [h]; rfl
      ·rw [beq_false_of_ne h, beq_false_of_ne (by omega)]
     rw [h1]
     have h2 : ks.contains a.2.1.1 = decide (a.2.1.1 ∈ ks) := by
      rw [Bool.eq_iff_iff, List.contains_iff_mem, decide_eq_true_eq]
     rw [h2]
     cases (ks.length == 0) <;> rfl
    have mid : ∀ K : List Int × List Int × List Snd × Int × Int × Bool × Snd × Unit → Option (List Int × List Int × List Snd × Int × Int × Unit),
      ((bif ((ks.length : Int) == 0) then some (ks, waitL ks (w.2.1.take i), w.2.1, (w.2.1.length : Int), (i : Int), true, a, ()) else (some (decide (a.2.1.1 ∈ ks))).bind fun y3 => some (ks, waitL ks (w.2.1.take i), w.2.1, (w.2.1.length : Int), (i : Int), y3, a, ()) : Option (List Int × List Int × List Snd × Int × Int × Bool × Snd × Unit))).bind K = K (ks, waitL ks (w.2.1.take i), w.2.1, (w.2.1.length : Int), (i : Int), waitP ks a, a, ()) := by
     intro K
     rw [hwp]
     cases ((ks.length : Int) == 0) <;> rfl
    simp (disch := omega) only [g_r17_Waiting_r1, dT, wT, Int.toNat_natCast, gD ha, hin, mid]
    cases hw : waitP ks a with
    | true => simp only [r0, cond_true, Option.bind_some, ws]
    | false => simp only [cond_false, Option.bind_some, ws, List.append_nil]) (by
    simp (disch := omega) only [g_r17_Waiting_r1, dF, List.take_length])
   exact this
  rw [e0, cond_false, l1]; rfl
end Go.Sq
namespace Go.Sq
open Go.Rx
theorem insL_filter {x : Int} : ∀ {l : List Int}, l.Pairwise (· < ·) → x ∉ l → l.filter (fun y => decide (y < x)) ++ (x :: l.filter (fun y => decide (y > x))) = insL x l
 | [], _, _ => rfl
 | a :: l, h, hx => by
  rw [List.pairwise_cons] at h
  rw [List.mem_cons, not_or] at hx
  rw [insL]
  by_cases ha : a < x
  ·rw [if_pos ha, ← insL_filter h.2 hx.2]
   rw [List.filter_cons_of_pos (by simpa using ha), List.filter_cons_of_neg (by simp; omega)]; rfl
  ·rw [if_neg ha]
   rw [List.filter_cons_of_neg (by simpa using ha), List.filter_cons_of_pos (by simp; omega)]
   have h1 : l.filter (fun y => decide (y < x)) = [] := List.filter_eq_nil_iff.2 fun y hy => by have := h.1 y hy; simp; omega
   have h2 : l.filter (fun y => decide (y > x)) = l := List.filter_eq_self.2 fun y hy => by have := h.1 y hy; simp; omega
   rw [h1, h2]; rfl
theorem putH_filter {h : Hrd} : ∀ {l : List Hrd}, l.Pairwise (fun a b => a.1 < b.1) → l.filter (fun y => decide (y.1 < h.1)) ++ (h :: l.filter (fun y => decide (y.1 > h.1))) = putH h l
 | [], _ => rfl
 | a :: l, hs => by
  rw [List.pairwise_cons] at hs
  rw [putH]
  by_cases ha : a.1 < h.1
  ·rw [if_pos ha, ← putH_filter hs.2]
   rw [List.filter_cons_of_pos (by simpa using ha), List.filter_cons_of_neg (by simp; omega)]; rfl
  ·rw [if_neg ha]
   have h1 : l.filter (fun y => decide (y.1 < h.1)) = [] := List.filter_eq_nil_iff.2 fun y hy => by have := hs.1 y hy; simp; omega
   have h2 : l.filter (fun y => decide (y.1 > h.1)) = l := List.filter_eq_self.2 fun y hy => by have := hs.1 y hy; simp; omega
   rw [List.filter_cons_of_neg (by simpa using ha), h1]
   by_cases he : a.1 = h.1
   ·rw [if_pos he, List.filter_cons_of_neg (by simp; omega), h2]; rfl
   ·rw [if_neg he, List.filter_cons_of_pos (by simp; omega), h2]; rfl
theorem settled_r3 {f : Int} {x : List Int} {z : Hrd} : ∀ {L : List Int} {b : Int}, L.length ≤ 1000 → -1000000000000 ≤ b → b + L.length ≤ 1000000000000 → iter g_r17_settled_r3 (L, (f, (b, x)), z, ()) = some ((bumpL b L).2, (f, ((bumpL b L).1, x)), z, ())
 | [], b, _, _, _ => iter_inr (by
   simp (disch := omega) only [g_r17_settled_r3, List.length_nil, dF, Option.bind_some, cond_false]; rfl)
 | a :: L, b, hl, h1, h2 => by
  rw [List.length_cons] at hl h2
  have w0 : within 0 (a :: L).length = true := within_iff.2 ⟨by omega, by rw [List.length_cons]; omega⟩
  have g0 : decide (((a :: L).length : Int) > 0) = true := decide_eq_true (by rw [List.length_cons]; omega)
  have gd : (a :: L).getD 0 0 = a := rfl
  rw [bumpL]
  by_cases he : a = b
  ·have eb : (a == b) = true := beq_iff_eq.2 he
   have wb : IntKind.i64.wrap (b + 1) = b + 1 := wrap_i64 (by omega) (by omega)
   have hc : cutG 1 ((a :: L).length : Int) (a :: L).length = true := by
    have := cutT (n := 1) (l := a :: L) (by rw [List.length_cons]; omega)
    exact this
   have hd : (((a :: L).drop 1).take (((a :: L).length : Int).toNat - 1)) = L := by
    rw [Int.toNat_natCast, List.length_cons, List.drop_one, List.tail_cons]
    exact List.take_of_length_le (by omega)
   rw [if_pos he]
   have hs : g_r17_settled_r3 (a :: L, (f, (b, x)), z, ()) = some (.inl (L, (f, (b + 1, x)), z, ())) := by
    simp only [g_r17_settled_r3, g0, cond_true, w0, gd, eb, Option.bind_some, hc, hd, wb]
   rw [iter_inl hs]
   exact settled_r3 (by omega) (by omega) (by omega)
  ·have eb : (a == b) = false := beq_false_of_ne he
   rw [if_neg he]
   exact iter_inr (by simp only [g_r17_settled_r3, g0, cond_true, w0, gd, eb, Option.bind_some, cond_false])
theorem settled_eq {h : Hrd} {t q : Int} (ho : okHrd q h = true) (h0 : 0 ≤ t) (h1 : t ≤ 1073741824) (hk : known h t = false) : g_r17_settled h t = some (addH h t) := by
 obtain ⟨o1, o2, o3, o4, o5, o6⟩ := okHrd_iff.1 ho
 obtain ⟨s1, s2⟩ := okNo_sorted o6
 unfold known at hk
 rw [Bool.or_eq_false_iff, decide_eq_false_iff_not, decide_eq_false_iff_not] at hk
 have hins := insL_filter s1 hk.1
 have hlen := insL_len t h.2.2
 have fl1 := List.length_filter_le (fun y => decide (y < t)) h.2.2
 have fl2 := List.length_filter_le (fun y => decide (y > t)) h.2.2
 have l1 : iter g_r17_settled_r1 (t, [], h.2.2, (h.2.2.length : Int), 0, h, (0, (0, [])), ()) = some (t, h.2.2.filter (fun y => decide (y < t)), h, (0, (0, [])), ()) := by
  have := iter_count (f := g_r17_settled_r1) (fun i => (t, (h.2.2.take i).filter (fun y => decide (y < t)), h.2.2, (h.2.2.length : Int), (i : Int), h, ((0, (0, [])) : Hrd), ())) h.2.2.length (r := (t, h.2.2.filter (fun y => decide (y < t)), h, (0, (0, [])), ())) (fun i hi => by
   obtain ⟨a, ha⟩ : ∃ a, h.2.2[i]? = some a := ⟨_, List.getElem?_eq_getElem hi⟩
   have ws : IntKind.i64.wrap ((i : Int) + 1) = ((i + 1 : Nat) : Int) := by rw [wrap_i64 (by omega) (by omega)]; rfl
   have r0 : room 8 ((h.2.2.take i).filter (fun y => decide (y < t)) ++ [a]).length = true := room_iff.2 (by have := filt_len (fun y => decide (y < t)) h.2.2 i; rw [List.length_append, List.length_singleton]; omega)
   rw [filt_step ha]
   cases hb : decide (a < t) with
   | true => simp (disch := omega) only [g_r17_settled_r1, dT, wT, Int.toNat_natCast, gD ha, hb, r0, cond_true, Option.bind_some, ws]
   | false => simp (disch := omega) only [g_r17_settled_r1, dT, wT, Int.toNat_natCast, gD ha, hb, cond_false, Option.bind_some, ws, List.append_nil]) (by
   simp (disch := omega) only [g_r17_settled_r1, dF, List.take_length])
  exact this
 have l2 : iter g_r17_settled_r2 (t, (h.2.2.filter (fun y => decide (y < t)) ++ [t]), h.2.2, (h.2.2.length : Int), 0, h, (0, (0, [])), ()) = some (insL t h.2.2, h, (0, (0, [])), ()) := by
  have := iter_count (f := g_r17_settled_r2) (fun i => (t, (h.2.2.filter (fun y => decide (y < t)) ++ [t]) ++ (h.2.2.take i).filter (fun y => decide (y > t)), h.2.2, (h.2.2.length : Int), (i : Int), h, ((0, (0, [])) : Hrd), ())) h.2.2.length (r := (insL t h.2.2, h, (0, (0, [])), ())) (fun i hi => by
   obtain ⟨a, ha⟩ : ∃ a, h.2.2[i]? = some a := ⟨_, List.getElem?_eq_getElem hi⟩
   have ws : IntKind.i64.wrap ((i : Int) + 1) = ((i + 1 : Nat) : Int) := by rw [wrap_i64 (by omega) (by omega)]; rfl
   have r0 : room 8 (((h.2.2.filter (fun y => decide (y < t)) ++ [t]) ++ (h.2.2.take i).filter (fun y => decide (y > t))) ++ [a]).length = true := room_iff.2 (by
    have := filt_len (fun y => decide (y > t)) h.2.2 i
    rw [List.length_append, List.length_append, List.length_append, List.length_singleton, List.length_singleton]; omega)
   rw [filt_step ha, ← List.append_assoc]
   cases hb : decide (a > t) with
   | true => simp (disch := omega) only [g_r17_settled_r2, dT, wT, Int.toNat_natCast, gD ha, hb, r0, cond_true, Option.bind_some, ws]
   | false => simp (disch := omega) only [g_r17_settled_r2, dT, wT, Int.toNat_natCast, gD ha, hb, cond_false, Option.bind_some, ws, List.append_nil]) (by
   simp (disch := omega) only [g_r17_settled_r2, dF, List.take_length]
   rw [List.append_assoc, List.singleton_append, hins])
  rw [← this]
  simp
 have r1 : room 8 (h.2.2.filter (fun y => decide (y < t)) ++ [t]).length = true := room_iff.2 (by rw [List.length_append, List.length_singleton]; omega)
 have hbr : -1000000000000 ≤ lowL h.2.1 (insL t h.2.2) ∧ lowL h.2.1 (insL t h.2.2) ≤ 100000000000 := by
  unfold lowL
  split
  ·cases e : insL t h.2.2 with
   | nil => rw [e] at hlen; simp at hlen
   | cons a l =>
    have : a ∈ insL t h.2.2 := by rw [e]; exact List.mem_cons_self
    show _ ≤ a ∧ a ≤ _
    rcases insL_mem.1 this with rfl | hx
    ·omega
    ·have := s2 a hx; omega
  ·omega
 have l3 := settled_r3 (f := h.1) (x := h.2.2) (z := (0, (0, []))) (L := insL t h.2.2) (b := lowL h.2.1 (insL t h.2.2)) (by omega) (by omega) (by omega)
 have w0 : within 0 (insL t h.2.2).length = true := within_iff.2 ⟨by omega, by omega⟩
 have mid : ∀ {α : Type} (K : List Int × Hrd × Hrd × Unit → Option α),
   (((bif (decide (((insL t h.2.2).length : Int) > 16)) then bif within 0 (insL t h.2.2).length then some (insL t h.2.2, ((insL t h.2.2).getD 0 0 != h.2.1), h, ((0, (0, [])) : Hrd), ()) else none else some (insL t h.2.2, false, h, ((0, (0, [])) : Hrd), ()) : Option (List Int × Bool × Hrd × Hrd × Unit))).bind fun j7 =>
    bif j7.2.1 then bif within 0 j7.1.length then some (j7.1, (j7.2.2.1.1, ((j7.1.getD 0 0), j7.2.2.1.2.2)), j7.2.2.2.1, ()) else none else some (j7.1, j7.2.2.1, j7.2.2.2.1, ())).bind K = K (insL t h.2.2, (h.1, (lowL h.2.1 (insL t h.2.2), h.2.2)), (0, (0, [])), ()) := by
  intro α K
  unfold lowL
  by_cases h16 : 16 < (insL t h.2.2).length
  ·rw [if_pos h16, decide_eq_true (show ((insL t h.2.2).length : Int) > 16 by omega), cond_true, w0, cond_true]
   by_cases he : (insL t h.2.2).getD 0 0 = h.2.1
   ·simp only [Option.bind_some, he, bne_self_eq_false, cond_false]
   ·simp only [Option.bind_some, bne_iff_ne.2 he, cond_true, w0]
  ·rw [if_neg h16, decide_eq_false (show ¬ ((insL t h.2.2).length : Int) > 16 by omega), cond_false]
   simp only [Option.bind_some, cond_false]
 unfold g_r17_settled addH
 simp only [l1, Option.bind_some, r1, cond_true, l2, mid, l3]
end Go.Sq
namespace Go.Sq
open Go.Rx
def lastH (f : Int) (d : Hrd) (l : List Hrd) : Hrd := l.foldl (fun d a => if a.1 = f then a else d) d
def cntH (f : Int) (l : List Hrd) : Nat := (l.filter (fun a => !(a.1 == f))).length
theorem lastH_app (f : Int) (d : Hrd) (l : List Hrd) (a : Hrd) : lastH f d (l ++ [a]) = if a.1 = f then a else lastH f d l := by
 unfold lastH
 rw [List.foldl_append]; rfl
theorem cntH_app (f : Int) (l : List Hrd) (a : Hrd) : cntH f (l ++ [a]) = cntH f l + (if a.1 = f then 0 else 1) := by
 unfold cntH
 rw [List.filter_append, List.length_append]
 by_cases h : a.1 = f
 ·rw [if_pos h]; simp [h]
 ·rw [if_neg h]; simp [h]
theorem lastH_none {f : Int} {d : Hrd} : ∀ {l : List Hrd}, findH f l = none → lastH f d l = d
 | [], _ => rfl
 | a :: l, h => by
  rw [findH] at h
  split at h
  ·cases h
  ·rename_i hn
   have : lastH f d (a :: l) = lastH f (if a.1 = f then a else d) l := rfl
   rw [this, if_neg hn]
   exact lastH_none h
theorem findH_above {f : Int} {l : List Hrd} (h : ∀ x ∈ l, f < x.1) : findH f l = none := by
 induction l with
 | nil => rfl
 | cons a l ih =>
  have := h a List.mem_cons_self
  rw [findH, if_neg (by omega)]
  exact ih fun x hx => h x (List.mem_cons_of_mem _ hx)
theorem lastH_some {f : Int} {h : Hrd} : ∀ {l : List Hrd} {d : Hrd}, l.Pairwise (fun a b => a.1 < b.1) → findH f l = some h → lastH f d l = h
 | [], _, _, e => by cases e
 | a :: l, d, hs, e => by
  rw [List.pairwise_cons] at hs
  have hl : lastH f d (a :: l) = lastH f (if a.1 = f then a else d) l := rfl
  rw [findH] at e
  rw [hl]
  by_cases ha : a.1 = f
  ·rw [if_pos ha] at e ⊢
   cases e
   exact lastH_none (findH_above fun x hx => by have := hs.1 x hx; omega)
  ·rw [if_neg ha] at e ⊢
   exact lastH_some hs.2 e
theorem cntH_none {f : Int} : ∀ {l : List Hrd}, findH f l = none → cntH f l = l.length
 | [], _ => rfl
 | a :: l, h => by
  rw [findH] at h
  split at h
  ·cases h
  ·rename_i hn
   have ih := cntH_none h
   unfold cntH at ih ⊢
   rw [List.filter_cons_of_pos (by simp [hn]), List.length_cons, List.length_cons, ih]
theorem cntH_some {f : Int} {h : Hrd} : ∀ {l : List Hrd}, findH f l = some h → cntH f l < l.length
 | [], e => by cases e
 | a :: l, e => by
  rw [findH] at e
  unfold cntH
  by_cases ha : a.1 = f
  ·rw [List.filter_cons_of_neg (by simp [ha])]
   have := List.length_filter_le (fun a : Hrd => !(a.1 == f)) l
   rw [List.length_cons]; omega
  ·rw [if_neg ha] at e
   have ih := cntH_some e
   unfold cntH at ih
   rw [List.filter_cons_of_pos (by simp [ha]), List.length_cons, List.length_cons]; omega
theorem cntH_le (f : Int) (l : List Hrd) : cntH f l ≤ l.length := List.length_filter_le _ _
def hearG (w : RS) (f t : Int) : RS × Bool × Int := bif okW w then hearP w f t else (zWq, false, 1)
theorem Hear_all {w : RS} {f t : Int} (hz : szW w) : g_retry_Hear w f t = some (hearG w f t) := by
 unfold hearG
 cases h : okW w with
 | true => exact Hear_eq hz h
 | false =>
  have hck : g_retry_Check w = some 1 := by rw [retry_Check_eq hz, h]; rfl
  have e0 : ∀ a b : Option (RS × Bool × Int), (bif (1 : Int) != 0 then a else b) = a := fun _ _ => rfl
  unfold g_retry_Hear g_retry_Hear_of
  cases g_retry_Hear_at w f t with
  | none =>
   simp only
   unfold g_retry_HearB
   simp only [hck, Option.bind_some, e0]; rfl
  | some g =>
   simp only
   unfold g_retry_HearA
   simp only [hck, Option.bind_some, e0]; rfl
theorem hear_l1 {w z : RS} {f t : Int} (h64 : w.2.2.length ≤ 64) :
  iter g_r17_Hear_r1 (f, t, 0, w.2.2, (w.2.2.length : Int), 0, (w.1, ()), w.2.1, z, (f, (0, [])), ()) = some (f, t, (cntH f w.2.2 : Int), w, z, lastH f (f, 0, []) w.2.2, ()) := by
 have := iter_count (f := g_r17_Hear_r1) (fun i => (f, t, (cntH f (w.2.2.take i) : Int), w.2.2, (w.2.2.length : Int), (i : Int), (w.1, ()), w.2.1, z, lastH f (f, 0, []) (w.2.2.take i), ())) w.2.2.length (r := (f, t, (cntH f w.2.2 : Int), w, z, lastH f (f, 0, []) w.2.2, ())) (fun i hi => by
  obtain ⟨a, ha⟩ : ∃ a, w.2.2[i]? = some a := ⟨_, List.getElem?_eq_getElem hi⟩
  have ws : IntKind.i64.wrap ((i : Int) + 1) = ((i + 1 : Nat) : Int) := by rw [wrap_i64 (by omega) (by omega)]; rfl
  have hc := cntH_le f (w.2.2.take i)
  rw [List.length_take] at hc
  have wc : IntKind.i64.wrap ((cntH f (w.2.2.take i) : Int) + 1) = ((cntH f (w.2.2.take i) + 1 : Nat) : Int) := by rw [wrap_i64 (by omega) (by omega)]; rfl
  rw [take_succ_of ha, lastH_app, cntH_app]
  by_cases he : a.1 = f
  ·rw [if_pos he, if_pos he, Nat.add_zero]
   simp (disch := omega) only [g_r17_Hear_r1, dT, wT, Int.toNat_natCast, gD ha, eT he, Option.bind_some, ws]
  ·rw [if_neg he, if_neg he]
   simp (disch := omega) only [g_r17_Hear_r1, dT, wT, Int.toNat_natCast, gD ha, eF he, Option.bind_some, ws, wc]) (by
  simp (disch := omega) only [g_r17_Hear_r1, dF, List.take_length])
 exact this
theorem hear_l2 {w z : RS} {f : Int} {y : Hrd} (h64 : w.2.2.length ≤ 64) :
  iter g_r17_Hear_r2 (f, [], w.2.2, (w.2.2.length : Int), 0, (w.1, ()), w.2.1, z, y, ()) = some (f, w.2.2.filter (fun x => decide (x.1 < f)), w, z, y, ()) := by
 have := iter_count (f := g_r17_Hear_r2) (fun i => (f, (w.2.2.take i).filter (fun x => decide (x.1 < f)), w.2.2, (w.2.2.length : Int), (i : Int), (w.1, ()), w.2.1, z, y, ())) w.2.2.length (r := (f, w.2.2.filter (fun x => decide (x.1 < f)), w, z, y, ())) (fun i hi => by
  obtain ⟨a, ha⟩ : ∃ a, w.2.2[i]? = some a := ⟨_, List.getElem?_eq_getElem hi⟩
  have ws : IntKind.i64.wrap ((i : Int) + 1) = ((i + 1 : Nat) : Int) := by rw [wrap_i64 (by omega) (by omega)]; rfl
  have r0 : room 40 ((w.2.2.take i).filter (fun x => decide (x.1 < f)) ++ [a]).length = true := room_iff.2 (by have := filt_len (fun x : Hrd => decide (x.1 < f)) w.2.2 i; rw [List.length_append, List.length_singleton]; omega)
  rw [filt_step ha]
  cases hb : decide (a.1 < f) with
  | true => simp (disch := omega) only [g_r17_Hear_r2, dT, wT, Int.toNat_natCast, gD ha, hb, r0, cond_true, Option.bind_some, ws]
  | false => simp (disch := omega) only [g_r17_Hear_r2, dT, wT, Int.toNat_natCast, gD ha, hb, cond_false, Option.bind_some, ws, List.append_nil]) (by
  simp (disch := omega) only [g_r17_Hear_r2, dF, List.take_length])
 exact this
theorem hear_l3 {w z : RS} {f : Int} {y : Hrd} (h64 : w.2.2.length ≤ 64) (hs : w.2.2.Pairwise (fun a b => a.1 < b.1)) (hy : y.1 = f) :
  iter g_r17_Hear_r3 (f, (w.2.2.filter (fun x => decide (x.1 < f)) ++ [y]), w.2.2, (w.2.2.length : Int), 0, (w.1, ()), w.2.1, z, ()) = some (putH y w.2.2, w, z, ()) := by
 have h0 := List.length_filter_le (fun x : Hrd => decide (x.1 < f)) w.2.2
 have hp := putH_filter (h := y) hs
 rw [hy] at hp
 have := iter_count (f := g_r17_Hear_r3) (fun i => (f, (w.2.2.filter (fun x => decide (x.1 < f)) ++ [y]) ++ (w.2.2.take i).filter (fun x => decide (x.1 > f)), w.2.2, (w.2.2.length : Int), (i : Int), (w.1, ()), w.2.1, z, ())) w.2.2.length (r := (putH y w.2.2, w, z, ())) (fun i hi => by
  obtain ⟨a, ha⟩ : ∃ a, w.2.2[i]? = some a := ⟨_, List.getElem?_eq_getElem hi⟩
  have ws : IntKind.i64.wrap ((i : Int) + 1) = ((i + 1 : Nat) : Int) := by rw [wrap_i64 (by omega) (by omega)]; rfl
  have r0 : room 40 (((w.2.2.filter (fun x => decide (x.1 < f)) ++ [y]) ++ (w.2.2.take i).filter (fun x => decide (x.1 > f))) ++ [a]).length = true := room_iff.2 (by
   have := filt_len (fun x : Hrd => decide (x.1 > f)) w.2.2 i
   rw [List.length_append, List.length_append, List.length_append, List.length_singleton, List.length_singleton]; omega)
  rw [filt_step ha, ← List.append_assoc]
  cases hb : decide (a.1 > f) with
  | true => simp (disch := omega) only [g_r17_Hear_r3, dT, wT, Int.toNat_natCast, gD ha, hb, r0, cond_true, Option.bind_some, ws]
  | false => simp (disch := omega) only [g_r17_Hear_r3, dT, wT, Int.toNat_natCast, gD ha, hb, cond_false, Option.bind_some, ws, List.append_nil]) (by
  simp (disch := omega) only [g_r17_Hear_r3, dF, List.take_length]
  rw [List.append_assoc, List.singleton_append, hp])
 rw [← this]
 simp
theorem r17_Hear_eq {w : RS} {f t : Int} (hz : szW w) : g_r17_Hear w f t = some (hearG w f t) := by
 unfold g_r17_Hear hearG
 rw [r17_Check_eq hz, Option.bind_some]
 cases ho : okW w with
 | false => rfl
 | true =>
  have e0 : (err true != 0) = false := rfl
  have hf := okW_few ho
  have hw := okW_iff.1 ho
  obtain ⟨s1, s2⟩ := heard_sorted hw.2.2.2.2
  rw [e0, cond_false, cond_true]
  by_cases h1 : f < 0
  ·have : hearP w f t = (zWq, false, 1) := by unfold hearP; rw [if_neg (by omega)]
   rw [dT h1, this]; rfl
  by_cases h2 : f > 1073741824
  ·have : hearP w f t = (zWq, false, 1) := by unfold hearP; rw [if_neg (by omega)]
   rw [dF h1, dT h2, this]; rfl
  by_cases h3 : t < 0
  ·have : hearP w f t = (zWq, false, 1) := by unfold hearP; rw [if_neg (by omega)]
   rw [dF h1, dF h2, dT h3, this]; rfl
  by_cases h4 : t > 1073741824
  ·have : hearP w f t = (zWq, false, 1) := by unfold hearP; rw [if_neg (by omega)]
   rw [dF h1, dF h2, dF h3, decide_eq_true h4, this]; rfl
  rw [dF h1, dF h2, dF h3, decide_eq_false h4]
  simp only [Option.bind_some, cond_false, Copy17_eq hf, hear_l1 (z := (0, [], [])) (f := f) (t := t) hf.2.2.1]
  have hin : 0 ≤ f ∧ f ≤ 1073741824 ∧ 0 ≤ t ∧ t ≤ 1073741824 := by omega
  have h64 := hf.2.2.1
  have kn : ∀ (h : Hrd) (K : Int × Int × Bool × RS × RS × Hrd × Unit → Option (RS × Bool × Int)), h.2.2.length ≤ 1000 →
    ((bif (decide (t < h.2.1)) then some (f, t, true, w, ((0, [], []) : RS), h, ()) else (g_r17_in h.2.2 t).bind fun y7 => some (f, t, y7, w, ((0, [], []) : RS), h, ()) : Option (Int × Int × Bool × RS × RS × Hrd × Unit))).bind K = K (f, t, known h t, w, (0, [], []), h, ()) := by
   intro h K hl
   unfold known
   rw [in_eq hl]
   cases decide (t < h.2.1) with
   | true => rw [Bool.or_true]; rfl
   | false => rw [Bool.or_false]; rfl
  have fin : ∀ (h : Hrd) (q : Int), h.1 = f → okHrd q h = true → known h t = false → ∀ K : Hrd → Option (RS × Bool × Int), (g_r17_settled h t).bind K = K (addH h t) ∧ (addH h t).1 = f := fun h q a b c K => by
   rw [settled_eq b (by omega) (by omega) c]
   exact ⟨rfl, a⟩
  have fl := List.length_filter_le (fun x : Hrd => decide (x.1 < f)) w.2.2
  have rr : ∀ y : Hrd, room 40 (w.2.2.filter (fun x => decide (x.1 < f)) ++ [y]).length = true := fun y => room_iff.2 (by rw [List.length_append, List.length_singleton]; omega)
  cases e : findH f w.2.2 with
  | none =>
   rw [cntH_none e, lastH_none e]
   have hk : known (f, 0, []) t = false := by
    unfold known
    rw [Bool.or_eq_false_iff, decide_eq_false_iff_not, decide_eq_false_iff_not]
    exact ⟨by simp, by show ¬ t < 0; omega⟩
   by_cases hfull : 64 ≤ w.2.2.length
   ·have hP : hearP w f t = (zWq, false, 2) := by
     unfold hearP
     rw [if_pos hin, e]
     simp only [if_pos hfull]
    rw [dT (by omega), hP]; rfl
   ·have hP : hearP w f t = ((w.1, w.2.1, putH (addH (f, 0, []) t) w.2.2), true, 0) := by
     unfold hearP
     rw [if_pos hin, e]
     simp only [if_neg hfull]
    rw [dF (by omega), hP, kn (f, 0, []) _ (by simp), hk]
    simp only [cond_false, (fin (f, 0, []) (-1) rfl (new_ok hin.1 hin.2.1) hk _).1, hear_l2 h64, rr, cond_true, Option.bind_some, hear_l3 h64 s1 (show (addH (f, 0, []) t).1 = f from rfl)]
  | some h =>
   obtain ⟨k1, k2⟩ := find_key e
   obtain ⟨_, q, hq⟩ := s2 h k2
   have hc := cntH_some e
   have hl16 := (okHrd_iff.1 hq).2.2.2.2.1
   rw [lastH_some s1 e, dF (by omega), kn h _ (by omega)]
   cases hk : known h t with
   | true =>
    have hP : hearP w f t = (w, false, 0) := by
     unfold hearP
     rw [if_pos hin, e]
     simp only [if_pos hk]
    rw [hP]; rfl
   | false =>
    have hP : hearP w f t = ((w.1, w.2.1, putH (addH h t) w.2.2), true, 0) := by
     unfold hearP
     rw [if_pos hin, e]
     simp only [hk]; rfl
    rw [hP]
    simp only [cond_false, (fin h q k1 hq hk _).1, hear_l2 h64, rr, cond_true, Option.bind_some, hear_l3 h64 s1 (show (addH h t).1 = f from k1)]
end Go.Sq
namespace Go.Sq
open Go.Rx
section
open Classical
theorem iter_zip {A X R : Type} [DecidableEq A] {f : X → Option (X ⊕ R)} (st : Nat → X) (l l' : List A) (hl : l.length = l'.length) {fin bad : R}
  (h : ∀ i a a', l[i]? = some a → l'[i]? = some a' → f (st i) = some (if a = a' then .inl (st (i + 1)) else .inr bad)) (he : f (st l.length) = some (.inr fin)) : iter f (st 0) = some (if l = l' then fin else bad) := by
 have key : ∀ n i, i + n = l.length → iter f (st i) = some (if l.drop i = l'.drop i then fin else bad) := by
  intro n
  induction n with
  | zero =>
   intro i hi
   have : i = l.length := by omega
   subst this
   rw [List.drop_length, hl, List.drop_length, if_pos rfl, ← hl]
   exact iter_inr he
  | succ n ih =>
   intro i hi
   obtain ⟨a, ha⟩ : ∃ a, l[i]? = some a := ⟨_, List.getElem?_eq_getElem (by omega)⟩
   obtain ⟨a', ha'⟩ : ∃ a, l'[i]? = some a := ⟨_, List.getElem?_eq_getElem (by omega)⟩
   have hs := h i a a' ha ha'
   rw [drop_cons_of ha, drop_cons_of ha']
   by_cases e : a = a'
   ·rw [if_pos e] at hs
    rw [iter_inl hs, ih (i + 1) (by omega)]
    subst e
    congr 1
    by_cases e2 : l.drop (i + 1) = l'.drop (i + 1)
    ·rw [if_pos e2, if_pos (by rw [e2])]
    ·rw [if_neg e2, if_neg fun h => e2 (List.cons.inj h).2]
   ·rw [if_neg e] at hs
    rw [iter_inr hs, if_neg fun h => e (List.cons.inj h).1]
 exact key l.length 0 (by omega)
theorem strEq_dec (x y : ByteArray) : strEq x y = decide (x = y) := by
 unfold strEq
 rw [Go.ByteArray.toList_eq, Go.ByteArray.toList_eq, Bool.eq_iff_iff, beq_iff_eq, decide_eq_true_eq]
 constructor
 ·intro h
  cases x with | mk a => cases y with | mk b => exact congrArg ByteArray.mk (Array.toList_inj.1 h)
 ·intro h; rw [h]
theorem wire_Same_eq {m n : Msg} (hm : szM m) (hn : szM n) : g_wire_Same m n = some (decide (m = n)) := by
 obtain ⟨a0, a1, a2, a3, a4, a5, a6, a7, s, d⟩ := m
 obtain ⟨b0, b1, b2, b3, b4, b5, b6, b7, s', d'⟩ := n
 have hd : small d := hm.2
 have hd' : small d' := hn.2
 have no : ∀ {p : Prop}, ¬ p → ((a0, a1, a2, a3, a4, a5, a6, a7, s, d) = ((b0, b1, b2, b3, b4, b5, b6, b7, s', d') : Msg) → p) → some (decide ((a0, a1, a2, a3, a4, a5, a6, a7, s, d) = ((b0, b1, b2, b3, b4, b5, b6, b7, s', d') : Msg))) = some false := fun hp hq => by rw [decide_eq_false fun e => hp (hq e)]
 unfold g_wire_Same
 simp only
 by_cases h1 : a1 = b1
 case neg => rw [nT h1, no h1 fun e => by cases e; rfl]
 by_cases h2 : a2 = b2
 case neg => rw [nF h1, nT h2, no h2 fun e => by cases e; rfl]
 by_cases h3 : a3 = b3
 case neg => rw [nF h1, nF h2, nT h3, no h3 fun e => by cases e; rfl]
 by_cases h4 : a4 = b4
 case neg => rw [nF h1, nF h2, nF h3, nT h4, no h4 fun e => by cases e; rfl]
 by_cases h5 : a5 = b5
 case neg => rw [nF h1, nF h2, nF h3, nF h4, nT h5, no h5 fun e => by cases e; rfl]
 by_cases h6 : a6 = b6
 case neg => rw [nF h1, nF h2, nF h3, nF h4, nF h5, nT h6, no h6 fun e => by cases e; rfl]
 by_cases h7 : a7 = b7
 case neg => rw [nF h1, nF h2, nF h3, nF h4, nF h5, nF h6, nT h7, no h7 fun e => by cases e; rfl]
 by_cases h0 : a0 = b0
 case neg => rw [nF h1, nF h2, nF h3, nF h4, nF h5, nF h6, nF h7, eF h0, no h0 fun e => by cases e; rfl]
 rw [nF h1, nF h2, nF h3, nF h4, nF h5, nF h6, nF h7, eT h0, strEq_dec, bytesEqual_eq hd hd']
 subst h0 h1 h2 h3 h4 h5 h6 h7
 by_cases hs : s = s'
 ·subst hs
  rw [decide_eq_true rfl, cond_true, Option.bind_some]
  by_cases he : d = d'
  ·rw [he]; simp
  ·rw [decide_eq_false he, decide_eq_false fun e => he (by cases e; rfl)]
 ·rw [decide_eq_false hs, cond_false, decide_eq_false fun e => hs (by cases e; rfl)]
def byteM (m : Msg) : Prop := bytes m.2.2.2.2.2.2.2.2.2
theorem nums_eq {x y : List Int} (h : x.length = y.length) (hx : x.length ≤ 100) : ((iter g_r15_Same_r1 (x, y, (x.length : Int), 0, ())).bind fun j5 => match j5 with | .inl _ => some true | .inr j7 => some j7.1) = some (decide (x = y)) := by
 have := Equal_eq (a := x) (b := y) (by unfold small; omega) (by unfold small; omega)
 unfold g_r03_Equal at this
 rw [nF (by omega)] at this
 exact this
theorem r15_Same_eq {m n : Msg} (hm : byteM m) (hn : byteM n) : g_r15_Same m n = some (decide (m = n)) := by
 obtain ⟨a0, a1, a2, a3, a4, a5, a6, a7, s, d⟩ := m
 obtain ⟨b0, b1, b2, b3, b4, b5, b6, b7, s', d'⟩ := n
 have hd : bytes d := hm
 have hd' : bytes d' := hn
 have no : ∀ {p : Prop}, ¬ p → ((a0, a1, a2, a3, a4, a5, a6, a7, s, d) = ((b0, b1, b2, b3, b4, b5, b6, b7, s', d') : Msg) → p) → some (decide ((a0, a1, a2, a3, a4, a5, a6, a7, s, d) = ((b0, b1, b2, b3, b4, b5, b6, b7, s', d') : Msg))) = some false := fun hp hq => by rw [decide_eq_false fun e => hp (hq e)]
 unfold g_r15_Same
 simp only
 by_cases h0 : a0 = b0
 case neg => rw [nT h0, no h0 fun e => by cases e; rfl]; rfl
 rw [nF h0, strEq_dec, strEq_eq hd hd']
 by_cases hs : s = s'
 case neg => rw [decide_eq_false hs, no hs fun e => by cases e; rfl]; rfl
 rw [decide_eq_true hs]
 by_cases he : d = d'
 case neg => rw [decide_eq_false he, no he fun e => by cases e; rfl]; rfl
 rw [decide_eq_true he]
 have hn1 : g_r15_numbers (a0, a1, a2, a3, a4, a5, a6, a7, s, d) = some [a1, a2, a3, a4, a5, a6, a7] := rfl
 have hn2 : g_r15_numbers (b0, b1, b2, b3, b4, b5, b6, b7, s', d') = some [b1, b2, b3, b4, b5, b6, b7] := rfl
 have hq := nums_eq (x := [a1, a2, a3, a4, a5, a6, a7]) (y := [b1, b2, b3, b4, b5, b6, b7]) rfl (by simp)
 simp only [Bool.not_true, cond_false, Option.bind_some, hn1, hn2]
 refine Eq.trans hq ?_
 congr 1
 rw [decide_eq_decide]
 subst h0 hs he
 constructor
 ·intro e; cases e; rfl
 ·intro e; cases e; rfl
theorem same_1_eq {a b : Snd} (ha : szM a.2.1) (hb : szM b.2.1) : g_retry_Same_1 a b = some (decide (a = b)) := by
 obtain ⟨t, m, l, x⟩ := a
 obtain ⟨t', m', l', x'⟩ := b
 unfold g_retry_Same_1
 rw [wire_Same_eq ha hb]
 by_cases h : [t, l, x] = [t', l', x']
 ·have e : ([t, l, x] == [t', l', x']) = true := beq_iff_eq.2 h
  simp only [e, cond_true, Option.bind_some]
  congr 1
  rw [decide_eq_decide]
  simp only [List.cons.injEq, and_true] at h
  obtain ⟨rfl, rfl, rfl⟩ := h
  constructor
  ·intro e; rw [e]
  ·intro e; cases e; rfl
 ·have e : ([t, l, x] == [t', l', x']) = false := beq_false_of_ne h
  simp only [e, cond_false]
  rw [decide_eq_false fun e => h (by cases e; rfl)]
theorem same_2_eq {a b : Hrd} (ha : small a.2.2) (hb : small b.2.2) : g_retry_Same_2 a b = some (decide (a = b)) := by
 obtain ⟨t, m, l⟩ := a
 obtain ⟨t', m', l'⟩ := b
 have he : g_slices_Equal_Sint_int l l' = some (decide (l = l')) := Equal_eq ha hb
 unfold g_retry_Same_2
 simp only
 by_cases h1 : t = t'
 case neg => rw [eF h1, decide_eq_false fun e => h1 (by cases e; rfl)]
 by_cases h2 : m = m'
 case neg => rw [eT h1, eF h2, decide_eq_false fun e => h2 (by cases e; rfl)]
 rw [eT h1, eT h2, he, Option.bind_some]
 subst h1 h2
 congr 1
 rw [decide_eq_decide]
 constructor
 ·intro e; rw [e]
 ·intro e; cases e; rfl
noncomputable def sameW (a b : RS) : Bool := (decide (a.2.1 = b.2.1) && decide (a.2.2 = b.2.2)) && decide (a.1 = b.1)
theorem sameW_iff {a b : RS} : sameW a b = true ↔ a = b := by
 unfold sameW
 rw [Bool.and_eq_true, Bool.and_eq_true, decide_eq_true_eq, decide_eq_true_eq, decide_eq_true_eq]
 obtain ⟨x, y, z⟩ := a
 obtain ⟨x', y', z'⟩ := b
 constructor
 ·rintro ⟨⟨h1, h2⟩, h3⟩
  simp only at h1 h2 h3
  rw [h1, h2, h3]
 ·intro e; cases e; exact ⟨⟨rfl, rfl⟩, rfl⟩
theorem retry_Same_eq {a b : RS} (ha : szW a) (hb : szW b) : g_retry_Same a b = some (sameW a b && okW a) := by
 have la := ha.1
 have la2 := ha.2.2.1
 have s1 : ∀ K : Bool × RS × RS × Unit → Option Bool, ((bif ((a.2.1.length : Int) != (b.2.1.length : Int)) then some (false, a, b, ()) else (iter g_retry_Same_r1 (a.2.1, b.2.1, a.2.1, (a.2.1.length : Int), 0, ())).bind fun j3 => (match j3 with
   | .inl _ => (some (true, a, b, ()))
   | .inr j5 => (some (j5.2.2.1, a, b, ()))) : Option (Bool × RS × RS × Unit))).bind K = K (decide (a.2.1 = b.2.1), a, b, ()) := by
  intro K
  by_cases hl : a.2.1.length = b.2.1.length
  ·have := iter_zip (f := g_retry_Same_r1) (fun i => (a.2.1, b.2.1, a.2.1, (a.2.1.length : Int), (i : Int), ())) a.2.1 b.2.1 hl (fin := .inl (a.2.1, b.2.1, ())) (bad := .inr (a.2.1, b.2.1, false, ())) (fun i x x' hx hx' => by
    have ws : IntKind.i64.wrap ((i : Int) + 1) = ((i + 1 : Nat) : Int) := by have := lt_of_get hx; rw [wrap_i64 (by omega) (by omega)]; rfl
    have h1 := lt_of_get hx
    have h2 := lt_of_get hx'
    have he := same_1_eq (ha.2.1 x (mem_of_get hx)) (hb.2.1 x' (mem_of_get hx'))
    by_cases e : x = x'
    ·rw [decide_eq_true e] at he
     rw [if_pos e]
     simp (disch := omega) only [g_retry_Same_r1, dT, wT, Int.toNat_natCast, gD hx, gD hx', he, Option.bind_some, Bool.not_true, cond_false, ws]
    ·rw [decide_eq_false e] at he
     rw [if_neg e]
     simp (disch := omega) only [g_retry_Same_r1, dT, wT, Int.toNat_natCast, gD hx, gD hx', he, Option.bind_some, Bool.not_false, cond_true]) (by simp (disch := omega) only [g_retry_Same_r1, dF])
   have this : iter g_retry_Same_r1 (a.2.1, b.2.1, a.2.1, (a.2.1.length : Int), 0, ()) = _ := this
   rw [nF (by omega), this]
   by_cases e : a.2.1 = b.2.1
   ·rw [if_pos e, decide_eq_true e]; rfl
   ·rw [if_neg e, decide_eq_false e]; rfl
  ·rw [nT (by omega), decide_eq_false fun e => hl (by rw [e])]; rfl
 have s2 : ∀ (c : Bool) (K : Bool × Bool × RS × RS × Unit → Option Bool), ((bif ((a.2.2.length : Int) != (b.2.2.length : Int)) then some (c, false, a, b, ()) else (iter g_retry_Same_r2 (a.2.2, b.2.2, a.2.2, (a.2.2.length : Int), 0, ())).bind fun j9 => (match j9 with
   | .inl _ => (some (c, true, a, b, ()))
   | .inr j11 => (some (c, j11.2.2.1, a, b, ()))) : Option (Bool × Bool × RS × RS × Unit))).bind K = K (c, decide (a.2.2 = b.2.2), a, b, ()) := by
  intro c K
  by_cases hl : a.2.2.length = b.2.2.length
  ·have := iter_zip (f := g_retry_Same_r2) (fun i => (a.2.2, b.2.2, a.2.2, (a.2.2.length : Int), (i : Int), ())) a.2.2 b.2.2 hl (fin := .inl (a.2.2, b.2.2, ())) (bad := .inr (a.2.2, b.2.2, false, ())) (fun i x x' hx hx' => by
    have ws : IntKind.i64.wrap ((i : Int) + 1) = ((i + 1 : Nat) : Int) := by have := lt_of_get hx; rw [wrap_i64 (by omega) (by omega)]; rfl
    have h1 := lt_of_get hx
    have h2 := lt_of_get hx'
    have he := same_2_eq (ha.2.2.2 x (mem_of_get hx)) (hb.2.2.2 x' (mem_of_get hx'))
    by_cases e : x = x'
    ·rw [decide_eq_true e] at he
     rw [if_pos e]
     simp (disch := omega) only [g_retry_Same_r2, dT, wT, Int.toNat_natCast, gD hx, gD hx', he, Option.bind_some, Bool.not_true, cond_false, ws]
    ·rw [decide_eq_false e] at he
     rw [if_neg e]
     simp (disch := omega) only [g_retry_Same_r2, dT, wT, Int.toNat_natCast, gD hx, gD hx', he, Option.bind_some, Bool.not_false, cond_true]) (by simp (disch := omega) only [g_retry_Same_r2, dF])
   have this : iter g_retry_Same_r2 (a.2.2, b.2.2, a.2.2, (a.2.2.length : Int), 0, ()) = _ := this
   rw [nF (by omega), this]
   by_cases e : a.2.2 = b.2.2
   ·rw [if_pos e, decide_eq_true e]; rfl
   ·rw [if_neg e, decide_eq_false e]; rfl
  ·rw [nT (by omega), decide_eq_false fun e => hl (by rw [e])]; rfl
 unfold g_retry_Same
 refine (s1 _).trans ?_
 refine (s2 _ _).trans ?_
 simp only [retry_Check_eq ha, Option.bind_some]
 unfold sameW
 cases decide (a.2.1 = b.2.1) with
 | false => rfl
 | true =>
  cases decide (a.2.2 = b.2.2) with
  | false => rfl
  | true =>
   by_cases h : a.1 = b.1
   ·rw [decide_eq_true h, eT h]
    cases okW a <;> rfl
   ·rw [decide_eq_false h, eF h]; rfl
end
end Go.Sq
namespace Go.Sq
open Go.Rx
section
open Classical
theorem snd_eq {x x' : Snd} (hx : byteM x.2.1) (hx' : byteM x'.2.1) {α : Type} (k : Bool → α) :
  (bif (x.1 != x'.1) then some (k true) else bif (x.2.2.1 != x'.2.2.1) then some (k true) else bif (x.2.2.2 != x'.2.2.2) then some (k true) else (g_r15_Same x.2.1 x'.2.1).bind fun y3 => some (k (!y3))) = some (k (!decide (x = x'))) := by
 obtain ⟨t, m, l, a⟩ := x
 obtain ⟨t', m', l', a'⟩ := x'
 simp only
 by_cases h1 : t = t'
 case neg => rw [nT h1, decide_eq_false fun e => h1 (by cases e; rfl)]; rfl
 by_cases h2 : l = l'
 case neg => rw [nF h1, nT h2, decide_eq_false fun e => h2 (by cases e; rfl)]; rfl
 by_cases h3 : a = a'
 case neg => rw [nF h1, nF h2, nT h3, decide_eq_false fun e => h3 (by cases e; rfl)]; rfl
 rw [nF h1, nF h2, nF h3, r15_Same_eq hx hx', Option.bind_some]
 subst h1 h2 h3
 have : decide (m = m') = decide ((t, m, l, a) = (t, m', l, a)) := by
  rw [decide_eq_decide]
  constructor
  ·intro e; rw [e]
  ·intro e; cases e; rfl
 rw [this]
theorem hrd_eq {x x' : Hrd} (hx : small x.2.2) (hx' : small x'.2.2) {α : Type} (k : Bool → α) :
  (bif (x.1 != x'.1) then some (k true) else bif (x.2.1 != x'.2.1) then some (k true) else (g_r03_Equal x.2.2 x'.2.2).bind fun y9 => some (k (!y9))) = some (k (!decide (x = x'))) := by
 obtain ⟨t, m, l⟩ := x
 obtain ⟨t', m', l'⟩ := x'
 simp only
 by_cases h1 : t = t'
 case neg => rw [nT h1, decide_eq_false fun e => h1 (by cases e; rfl)]; rfl
 by_cases h2 : m = m'
 case neg => rw [nF h1, nT h2, decide_eq_false fun e => h2 (by cases e; rfl)]; rfl
 rw [nF h1, nF h2, Equal_eq hx hx', Option.bind_some]
 subst h1 h2
 have : decide (l = l') = decide ((t, m, l) = (t, m, l')) := by
  rw [decide_eq_decide]
  constructor
  ·intro e; rw [e]
  ·intro e; cases e; rfl
 rw [this]
def byteW (w : RS) : Prop := ∀ s ∈ w.2.1, byteM s.2.1
theorem r17_Equal_eq {a b : RS} (ha : szW a) (hb : szW b) (ba : byteW a) (bb : byteW b) : g_r17_Equal a b = some (sameW a b) := by
 have la := ha.1
 have la2 := ha.2.2.1
 unfold g_r17_Equal sameW
 by_cases h1 : a.1 = b.1
 case neg => rw [nT h1, decide_eq_false h1, Bool.and_false]; rfl
 by_cases h2 : a.2.1.length = b.2.1.length
 case neg => rw [nF h1, nT (by omega), decide_eq_false (p := a.2.1 = b.2.1) fun e => h2 (by rw [e])]; rfl
 by_cases h3 : a.2.2.length = b.2.2.length
 case neg => rw [nF h1, nF (by omega), bne_iff_ne.2 (show (a.2.2.length : Int) ≠ (b.2.2.length : Int) by omega), decide_eq_false (p := a.2.2 = b.2.2) fun e => h3 (by rw [e]), Bool.and_false]; rfl
 have e3 : ((a.2.2.length : Int) != (b.2.2.length : Int)) = false := by rw [h3, bne_self_eq_false]
 rw [nF h1, nF (by omega), e3, decide_eq_true h1, Bool.and_true]
 have l1 := iter_zip (f := g_r17_Equal_r1) (fun i => (a.2.1, (a.2.1.length : Int), (i : Int), a, b, ())) a.2.1 b.2.1 h2 (fin := .inl (a, b, ())) (bad := .inr (false, ())) (fun i x x' hx hx' => by
  have ws : IntKind.i64.wrap ((i : Int) + 1) = ((i + 1 : Nat) : Int) := by have := lt_of_get hx; rw [wrap_i64 (by omega) (by omega)]; rfl
  have g1 := lt_of_get hx
  have g2 := lt_of_get hx'
  have he := snd_eq (ba x (mem_of_get hx)) (bb x' (mem_of_get hx')) (fun q => (a.2.1, (a.2.1.length : Int), (i : Int), q, a, b, ()))
  by_cases e : x = x'
  ·rw [decide_eq_true e] at he
   rw [if_pos e]
   simp (disch := omega) only [g_r17_Equal_r1, dT, wT, Int.toNat_natCast, gD hx, gD hx', he, Option.bind_some, Bool.not_true, cond_false, ws]
  ·rw [decide_eq_false e] at he
   rw [if_neg e]
   simp (disch := omega) only [g_r17_Equal_r1, dT, wT, Int.toNat_natCast, gD hx, gD hx', he, Option.bind_some, Bool.not_false, cond_true]) (by simp (disch := omega) only [g_r17_Equal_r1, dF])
 have l2 := iter_zip (f := g_r17_Equal_r2) (fun i => (a.2.2, (a.2.2.length : Int), (i : Int), b, ())) a.2.2 b.2.2 h3 (fin := .inl ()) (bad := .inr (false, ())) (fun i x x' hx hx' => by
  have ws : IntKind.i64.wrap ((i : Int) + 1) = ((i + 1 : Nat) : Int) := by have := lt_of_get hx; rw [wrap_i64 (by omega) (by omega)]; rfl
  have g1 := lt_of_get hx
  have g2 := lt_of_get hx'
  have he := hrd_eq (ha.2.2.2 x (mem_of_get hx)) (hb.2.2.2 x' (mem_of_get hx')) (fun q => (a.2.2, (a.2.2.length : Int), (i : Int), q, b, ()))
  by_cases e : x = x'
  ·rw [decide_eq_true e] at he
   rw [if_pos e]
   simp (disch := omega) only [g_r17_Equal_r2, dT, wT, Int.toNat_natCast, gD hx, gD hx', he, Option.bind_some, Bool.not_true, cond_false, ws]
  ·rw [decide_eq_false e] at he
   rw [if_neg e]
   simp (disch := omega) only [g_r17_Equal_r2, dT, wT, Int.toNat_natCast, gD hx, gD hx', he, Option.bind_some, Bool.not_false, cond_true]) (by simp (disch := omega) only [g_r17_Equal_r2, dF])
 have l1 : iter g_r17_Equal_r1 (a.2.1, (a.2.1.length : Int), 0, a, b, ()) = _ := l1
 have l2 : iter g_r17_Equal_r2 (a.2.2, (a.2.2.length : Int), 0, b, ()) = _ := l2
 simp only [Option.bind_some, cond_false, l1]
 by_cases e1 : a.2.1 = b.2.1
 ·rw [if_pos e1, decide_eq_true e1]
  simp only [l2, Option.bind_some]
  by_cases e2 : a.2.2 = b.2.2
  ·rw [if_pos e2, decide_eq_true e2]; rfl
  ·rw [if_neg e2, decide_eq_false e2]; rfl
 ·rw [if_neg e1, decide_eq_false e1]; rfl
theorem r17_Same_eq {a b : RS} (ha : szW a) (hb : szW b) (ba : byteW a) (bb : byteW b) : g_r17_Same a b = some (sameW a b && okW a) := by
 unfold g_r17_Same
 rw [r17_Check_eq ha, r17_Check_eq hb, r17_Equal_eq ha hb ba bb, Option.bind_some]
 cases h1 : okW a with
 | false => rw [Bool.and_false]; rfl
 | true =>
  rw [Bool.and_true]
  have e0 : (err true == 0) = true := rfl
  rw [e0, cond_true, Option.bind_some]
  cases h2 : okW b with
  | true => rfl
  | false =>
   cases hs : sameW a b with
   | false => rfl
   | true => rw [sameW_iff.1 hs, h2] at h1; cases h1
theorem r15_Same_refl (m : Msg) : g_r15_Same m m = some true := by
 obtain ⟨a0, a1, a2, a3, a4, a5, a6, a7, s, d⟩ := m
 unfold g_r15_Same
 have hn1 : g_r15_numbers (a0, a1, a2, a3, a4, a5, a6, a7, s, d) = some [a1, a2, a3, a4, a5, a6, a7] := rfl
 have hq := nums_eq (x := [a1, a2, a3, a4, a5, a6, a7]) (y := [a1, a2, a3, a4, a5, a6, a7]) rfl (by simp)
 rw [decide_eq_true rfl] at hq
 have r1 : strEq s s = true := beq_self_eq_true _
 have r2 : strEq (strOf d) (strOf d) = true := beq_self_eq_true _
 simp only [bne_self_eq_false, cond_false, r1, r2, Bool.not_true, Option.bind_some, hn1]
 exact hq
theorem Equal17_refl {a : RS} (ha : szW a) : g_r17_Equal a a = some true := by
 have la := ha.1
 have la2 := ha.2.2.1
 have l1 : iter g_r17_Equal_r1 (a.2.1, (a.2.1.length : Int), 0, a, a, ()) = some (.inl (a, a, ())) :=
  iter_count (f := g_r17_Equal_r1) (fun i => (a.2.1, (a.2.1.length : Int), (i : Int), a, a, ())) a.2.1.length (fun i hi => by
   obtain ⟨x, hx⟩ : ∃ x, a.2.1[i]? = some x := ⟨_, List.getElem?_eq_getElem hi⟩
   have ws : IntKind.i64.wrap ((i : Int) + 1) = ((i + 1 : Nat) : Int) := by rw [wrap_i64 (by omega) (by omega)]; rfl
   simp (disch := omega) only [g_r17_Equal_r1, dT, wT, Int.toNat_natCast, gD hx, bne_self_eq_false, r15_Same_refl, Option.bind_some, Bool.not_true, cond_false, ws]) (by simp (disch := omega) only [g_r17_Equal_r1, dF])
 have l2 : iter g_r17_Equal_r2 (a.2.2, (a.2.2.length : Int), 0, a, ()) = some (.inl ()) :=
  iter_count (f := g_r17_Equal_r2) (fun i => (a.2.2, (a.2.2.length : Int), (i : Int), a, ())) a.2.2.length (fun i hi => by
   obtain ⟨x, hx⟩ : ∃ x, a.2.2[i]? = some x := ⟨_, List.getElem?_eq_getElem hi⟩
   have ws : IntKind.i64.wrap ((i : Int) + 1) = ((i + 1 : Nat) : Int) := by rw [wrap_i64 (by omega) (by omega)]; rfl
   have he := Equal_eq (ha.2.2.2 x (mem_of_get hx)) (ha.2.2.2 x (mem_of_get hx))
   rw [decide_eq_true rfl] at he
   simp (disch := omega) only [g_r17_Equal_r2, dT, wT, Int.toNat_natCast, gD hx, bne_self_eq_false, he, Option.bind_some, Bool.not_true, cond_false, ws]) (by simp (disch := omega) only [g_r17_Equal_r2, dF])
 unfold g_r17_Equal
 simp only [bne_self_eq_false, cond_false, Option.bind_some, l1, l2]
theorem SameMsgs_refl {l : List Msg} (hl : small l) : g_r17_SameMsgs l l = some true := by
 unfold small at hl
 have l1 : iter g_r17_SameMsgs_r1 (l, l, (l.length : Int), 0, ()) = some (.inl ()) :=
  iter_count (f := g_r17_SameMsgs_r1) (fun i => (l, l, (l.length : Int), (i : Int), ())) l.length (fun i hi => by
   obtain ⟨x, hx⟩ : ∃ x, l[i]? = some x := ⟨_, List.getElem?_eq_getElem hi⟩
   have ws : IntKind.i64.wrap ((i : Int) + 1) = ((i + 1 : Nat) : Int) := by rw [wrap_i64 (by omega) (by omega)]; rfl
   simp (disch := omega) only [g_r17_SameMsgs_r1, dT, wT, Int.toNat_natCast, gD hx, r15_Same_refl, Option.bind_some, Bool.not_true, cond_false, ws]) (by simp (disch := omega) only [g_r17_SameMsgs_r1, dF])
 unfold g_r17_SameMsgs
 rw [bne_self_eq_false, cond_false, l1]; rfl
theorem tell_refl {s : TellT} (h1 : small s.2.2.1) (h2 : s.2.2.2.length ≤ 1000) (h3 : ∀ l ∈ s.2.2.2, small l) : g_law17_same s s = some true := by
 have l1 : iter g_law17_same_r1 ((s.2.2.2.length : Int), 0, s, s, ()) = some (.inl ()) :=
  iter_count (f := g_law17_same_r1) (fun i => ((s.2.2.2.length : Int), (i : Int), s, s, ())) s.2.2.2.length (fun i hi => by
   obtain ⟨x, hx⟩ : ∃ x, s.2.2.2[i]? = some x := ⟨_, List.getElem?_eq_getElem hi⟩
   have ws : IntKind.i64.wrap ((i : Int) + 1) = ((i + 1 : Nat) : Int) := by rw [wrap_i64 (by omega) (by omega)]; rfl
   simp (disch := omega) only [g_law17_same_r1, dT, wT, Int.toNat_natCast, gD hx, SameMsgs_refl (h3 x (mem_of_get hx)), Option.bind_some, Bool.not_true, cond_false, ws]) (by simp (disch := omega) only [g_law17_same_r1, dF])
 have he := Equal_eq h1 h1
 rw [decide_eq_true rfl] at he
 unfold g_law17_same
 simp only [beq_self_eq_true, Bool.not_true, cond_false, bne_self_eq_false, he, Option.bind_some, l1]
end
end Go.Sq
namespace Go.Sq
open Go.Rx
def fewC (w : RS) : Prop := w.2.1.length ≤ 100 ∧ w.2.2.length ≤ 100 ∧ ∀ h ∈ w.2.2, h.2.2.length ≤ 100
theorem fewC_of {w : RS} (h : fewW w) : fewC w := ⟨by have := h.1; omega, by have := h.2.2.1; omega, fun x hx => by have := h.2.2.2 x hx; omega⟩
theorem CopyC_eq {w : RS} (h : fewC w) : g_r17_Copy w = some w := by
 obtain ⟨h1, h3, h4⟩ := h
 have hr : room 128 w.2.1.length = true := room_iff.2 (by omega)
 have l1 : iter g_r17_Copy_r1 ([], w.2.2, (w.2.2.length : Int), 0, w, (0, ([], [])), ()) = some (w.2.2, w, (0, ([], [])), ()) := by
  have := iter_count (f := g_r17_Copy_r1) (fun i => (w.2.2.take i, w.2.2, (w.2.2.length : Int), (i : Int), w, ((0, ([], [])) : RS), ())) w.2.2.length (r := (w.2.2, w, (0, ([], [])), ())) (fun i hi => by
   obtain ⟨a, ha⟩ : ∃ a, w.2.2[i]? = some a := ⟨_, List.getElem?_eq_getElem hi⟩
   have ws : IntKind.i64.wrap ((i : Int) + 1) = ((i + 1 : Nat) : Int) := by rw [wrap_i64 (by omega) (by omega)]; rfl
   have r1 : room 8 a.2.2.length = true := room_iff.2 (by have := h4 a (mem_of_get ha); omega)
   have r2 : room 40 (w.2.2.take i ++ [a]).length = true := room_iff.2 (by rw [List.length_append, List.length_take, List.length_singleton]; omega)
   rw [take_succ_of ha]
   simp (disch := omega) only [g_r17_Copy_r1, dT, wT, Int.toNat_natCast, gD ha, r1, r2, cond_true, ws]) (by simp (disch := omega) only [g_r17_Copy_r1, dF, List.take_length])
  exact this
 unfold g_r17_Copy
 rw [hr, cond_true, l1]; rfl
theorem scanC_all {A : Type} {p : A → Prop} [DecidablePred p] : ∀ {l : List A} {u : Unit}, scanL (fun (_ : Unit) a => (if p a then Sum.inr () else Sum.inl () : Unit ⊕ Unit)) () l = .inl u → ∀ a ∈ l, ¬ p a
 | [], _, _, a, ha => by cases ha
 | x :: l, u, h, a, ha => by
  rw [scanL] at h
  by_cases hp : p x
  ·rw [if_pos hp] at h; cases h
  ·rw [if_neg hp] at h
   rcases List.mem_cons.1 ha with rfl | ha
   ·exact hp
   ·exact scanC_all h a ha
theorem few_true {w : RS} (hz : szW w) (hf : g_law17_few w = some true) : fewC w := by
 obtain ⟨h1, _, h3, _⟩ := hz
 have l1 : ∃ r, iter g_law17_few_r1 (w.2.1, (w.2.1.length : Int), 0, w, ()) = some r ∧ (r = .inl (w, ()) ∨ r = .inr (false, ())) := by
  have := iter_scan (f := g_law17_few_r1) w.2.1 (fun i (_ : Unit) => (w.2.1, (w.2.1.length : Int), (i : Int), w, ())) (fun _ a => if g_r15_Big a.2.1 = some true then Sum.inr () else Sum.inl ()) (fun _ => .inr (false, ())) (fun _ => .inl (w, ()))
   (fun i a s hi => by
    have hi2 := lt_of_get hi
    have ws : IntKind.i64.wrap ((i : Int) + 1) = ((i + 1 : Nat) : Int) := by rw [wrap_i64 (by omega) (by omega)]; rfl
    obtain ⟨b, hb⟩ := Big_tot a.2.1
    cases b with
    | true => simp (disch := omega) only [g_law17_few_r1, dT, wT, Int.toNat_natCast, gD hi, hb, Option.bind_some, cond_true, if_true]
    | false => simp (disch := omega) only [g_law17_few_r1, dT, wT, Int.toNat_natCast, gD hi, hb, Option.bind_some, cond_false, Option.some.injEq, Bool.false_eq_true, if_false, ws])
   (fun s => by simp (disch := omega) only [g_law17_few_r1, dF]) ()
  cases hs : scanL (fun (_ : Unit) (a : Snd) => (if g_r15_Big a.2.1 = some true then Sum.inr () else Sum.inl () : Unit ⊕ Unit)) () w.2.1 with
  | inl _ => rw [hs] at this; exact ⟨_, this, .inl rfl⟩
  | inr _ => rw [hs] at this; exact ⟨_, this, .inr rfl⟩
 have l2 : ∃ r, iter g_law17_few_r2 (w.2.2, (w.2.2.length : Int), 0, w, ()) = some r ∧ ((r = .inl (w, ()) ∧ ∀ h ∈ w.2.2, h.2.2.length ≤ 100) ∨ r = .inr (false, ())) := by
  have := iter_scan (f := g_law17_few_r2) w.2.2 (fun i (_ : Unit) => (w.2.2, (w.2.2.length : Int), (i : Int), w, ())) (fun _ a => if (a.2.2.length : Int) > 100 then Sum.inr () else Sum.inl ()) (fun _ => .inr (false, ())) (fun _ => .inl (w, ()))
   (fun i a s hi => by
    have hi2 := lt_of_get hi
    have ws : IntKind.i64.wrap ((i : Int) + 1) = ((i + 1 : Nat) : Int) := by rw [wrap_i64 (by omega) (by omega)]; rfl
    by_cases hb : (a.2.2.length : Int) > 100
    ·simp (disch := omega) only [g_law17_few_r2, dT, wT, Int.toNat_natCast, gD hi, if_pos]
    ·simp (disch := omega) only [g_law17_few_r2, dT, dF, wT, Int.toNat_natCast, gD hi, if_neg hb, ws])
   (fun s => by simp (disch := omega) only [g_law17_few_r2, dF]) ()
  cases hs : scanL (fun (_ : Unit) (a : Hrd) => (if (a.2.2.length : Int) > 100 then Sum.inr () else Sum.inl () : Unit ⊕ Unit)) () w.2.2 with
  | inl _ =>
   rw [hs] at this
   exact ⟨_, this, .inl ⟨rfl, fun h hh => by have := scanC_all hs h hh; omega⟩⟩
  | inr _ => rw [hs] at this; exact ⟨_, this, .inr rfl⟩
 obtain ⟨r1, e1, c1⟩ := l1
 obtain ⟨r2, e2, c2⟩ := l2
 unfold g_law17_few at hf
 rw [e1, Option.bind_some] at hf
 rcases c1 with rfl | rfl
 ·simp only [e2, Option.bind_some] at hf
  rcases c2 with ⟨rfl, hh⟩ | rfl
  ·have hf : (bif decide ((w.2.1.length : Int) ≤ 100) then some (decide ((w.2.2.length : Int) ≤ 100)) else some false) = some true := hf
   by_cases g1 : (w.2.1.length : Int) ≤ 100
   ·rw [dT g1] at hf
    have g2 := of_decide_eq_true (Option.some.inj hf)
    exact ⟨by omega, by omega, hh⟩
   ·rw [dF g1] at hf; cases hf
  ·cases hf
 ·cases hf
theorem szZ : szW zWq := ⟨by show 0 ≤ _; omega, (fun _ h => by cases h), by show 0 ≤ _; omega, (fun _ h => by cases h)⟩
theorem post_err {w : RS} {m : Msg} {t : Int} (h : (postG w m t).2.2 ≠ 0) : (postG w m t).1 = zWq := by
 unfold postG postW at h ⊢
 cases h1 : inT t && okW w with
 | false => rfl
 | true =>
  cases h2 : okM (noM m w.1) with
  | false => rfl
  | true =>
   rw [h1, h2] at h
   cases h3 : (w.1 == 1073741824 || decide ((w.2.1.length : Int) ≥ 64)) with
   | true => rfl
   | false => rw [h3] at h; exact absurd rfl h
theorem tick_err {w : RS} {t : Int} (h : (tickG w t).2.2.2 ≠ 0) : (tickG w t).1 = zWq := by
 unfold tickG at h ⊢
 cases hb : inT t && okW w with
 | false => rfl
 | true => rw [hb] at h; exact absurd rfl h
theorem answer_err {w : RS} {t : Int} (h : (answerG w t).2.2 ≠ 0) : (answerG w t).1 = zWq := by
 unfold answerG at h ⊢
 cases hb : okW w with
 | false => rfl
 | true => rw [hb] at h; exact absurd rfl h
theorem hear_err {w : RS} {f t : Int} (h : (hearG w f t).2.2 ≠ 0) : (hearG w f t).1 = zWq := by
 unfold hearG at h ⊢
 cases hb : okW w with
 | false => rfl
 | true =>
  rw [hb, cond_true] at h
  rw [cond_true]
  unfold hearP at h ⊢
  split
  ·rename_i hin
   rw [if_pos hin] at h
   cases e : findH f w.2.2 with
   | none =>
    rw [e] at h
    simp only at h ⊢
    by_cases h1 : 64 ≤ w.2.2.length
    ·rw [if_pos h1]
    ·rw [if_neg h1] at h; exact absurd rfl h
   | some x =>
    rw [e] at h
    simp only at h ⊢
    by_cases h1 : known x t = true
    ·rw [if_pos h1] at h; exact absurd rfl h
    ·rw [if_neg h1] at h; exact absurd rfl h
  ·rfl
structure Did (w : RS) (r : RS × TellT) : Prop where
 go : r.2.2.1 = 0 → szW r.1 ∧ fewC r.1
 bad : r.2.2.1 ≠ 0 → r.1 = zWq
 nums : small r.2.2.2.1
 many : r.2.2.2.2.length ≤ 1000
 msgs : ∀ l ∈ r.2.2.2.2, small l
theorem post_did {w : RS} {m : Msg} {t : Int} (hz : szW w) (hm : szM m) (h : (postG w m t).2.2 = 0) : szW (postG w m t).1 ∧ fewC (postG w m t).1 := by
 unfold postG at h ⊢
 cases hb : inT t && okW w with
 | false => rw [hb] at h; cases h
 | true =>
  rw [hb] at h
  rw [cond_true] at h ⊢
  rw [Bool.and_eq_true] at hb
  have ht := inT_T hb.1
  unfold postW at h ⊢
  by_cases h1 : okM (noM m w.1) = true
  ·rw [h1] at h ⊢
   rw [Bool.not_true, cond_false] at h ⊢
   by_cases h2 : w.1 = 1073741824 ∨ 64 ≤ w.2.1.length
   ·have h3 : (w.1 == 1073741824 || decide ((w.2.1.length : Int) ≥ 64)) = true := by
     rw [Bool.or_eq_true, beq_iff_eq, decide_eq_true_eq]
     rcases h2 with h2 | h2
     ·exact .inl h2
     ·exact .inr (by omega)
    rw [h3] at h; cases h
   ·rw [not_or] at h2
    have h3 : (w.1 == 1073741824 || decide ((w.2.1.length : Int) ≥ 64)) = false := by
     rw [Bool.or_eq_false_iff, decide_eq_false_iff_not]
     exact ⟨beq_false_of_ne h2.1, by omega⟩
    rw [h3]
    exact ⟨sent_sz (t := t) hz hm (by omega), fewC_of (okW_few (sent_ok (m := m) (t := t) hb.2 h1 h2.1 (by omega) ht.1 ht.2))⟩
  ·rw [Bool.not_eq_true] at h1
   rw [h1] at h; cases h
theorem few_up {w : RS} {t : Int} (h : okW w = true) : (upT t w.2.1).length ≤ 64 ∧ (againT t (restT t w.2.1)).length ≤ 64 := by
 have h64 := (okW_few h).1
 unfold upT againT restT
 rw [List.length_map, List.length_map]
 have h1 := List.length_filter_le (overS t) w.2.1
 have h2 := List.length_filter_le (fun s => !overS t s) w.2.1
 have h3 := List.length_filter_le (dueS t) (w.2.1.filter (fun s => !overS t s))
 omega
theorem body_all {w : RS} {o : OpT} (hz : szW w) (hf : fewC w) (hm : szM o.2.2.2) : ∃ r, g_law17_body w o = some r ∧ g_law17_model w o = some r ∧ Did w r := by
 obtain ⟨d, a, b, m⟩ := o
 have hm : szM m := hm
 by_cases d0 : d = 0
 ·refine ⟨((postG w m a).1, (false, ((postG w m a).2.2, ([], [[(postG w m a).2.1]])))), ?_, ?_, fun h => post_did hz hm h, fun h => post_err h, by unfold small; simp, by simp, by simp [small]⟩
  ·unfold g_law17_body
   simp only [eT d0, Post_all hz hm, Option.bind_some]
  ·unfold g_law17_model
   simp only [eT d0, r17_Post_eq hz hm, Option.bind_some]
 by_cases d1 : d = 1
 ·refine ⟨((tickG w a).1, (false, ((tickG w a).2.2.2, ([], [(tickG w a).2.1, (tickG w a).2.2.1])))), ?_, ?_, fun h => ?_, fun h => tick_err h, by unfold small; simp, by simp, ?_⟩
  ·unfold g_law17_body
   simp only [eF d0, eT d1, Tick_all hz, Option.bind_some]
  ·unfold g_law17_model
   simp only [eF d0, eT d1, r17_Tick_eq hz, Option.bind_some]
  ·have h : (tickG w a).2.2.2 = 0 := h
   show szW (tickG w a).1 ∧ fewC (tickG w a).1
   unfold tickG at h ⊢
   cases hb : inT a && okW w with
   | false => rw [hb] at h; cases h
   | true =>
    rw [Bool.and_eq_true] at hb
    exact ⟨tick_sz hz, fewC_of (okW_few (tick_ok hb.2 (inT_T hb.1).1 (inT_T hb.1).2))⟩
  ·intro l hl
   have h2 : (tickG w a).2.1.length ≤ 64 ∧ (tickG w a).2.2.1.length ≤ 64 := by
    unfold tickG
    cases hb : inT a && okW w with
    | false => exact ⟨by simp, by simp⟩
    | true =>
     rw [Bool.and_eq_true] at hb
     have := few_up (t := a) hb.2
     exact ⟨this.2, this.1⟩
   rcases List.mem_cons.1 hl with rfl | hl
   ·unfold small; omega
   ·rw [List.mem_singleton.1 hl]; unfold small; omega
 by_cases d2 : d = 2
 ·refine ⟨((answerG w a).1, ((answerG w a).2.1, ((answerG w a).2.2, ([], [])))), ?_, ?_, fun h => ?_, fun h => answer_err h, by unfold small; simp, by simp, by simp⟩
  ·unfold g_law17_body
   simp only [eF d0, eF d1, eT d2, Answered_all hz, Option.bind_some]
  ·unfold g_law17_model
   simp only [eF d0, eF d1, eT d2, r17_Answered_eq hz, Option.bind_some]
  ·have h : (answerG w a).2.2 = 0 := h
   show szW (answerG w a).1 ∧ fewC (answerG w a).1
   unfold answerG at h ⊢
   cases hb : okW w with
   | false => rw [hb] at h; cases h
   | true => exact ⟨answer_sz hz, fewC_of (okW_few (answer_ok hb))⟩
 by_cases d3 : d = 3
 ·refine ⟨((hearG w a b).1, ((hearG w a b).2.1, ((hearG w a b).2.2, ([], [])))), ?_, ?_, fun h => ?_, fun h => hear_err h, by unfold small; simp, by simp, by simp⟩
  ·unfold g_law17_body
   simp only [eF d0, eF d1, eF d2, eT d3, Hear_all hz, Option.bind_some]
  ·unfold g_law17_model
   simp only [eF d0, eF d1, eF d2, eT d3, r17_Hear_eq hz, Option.bind_some]
  ·have h : (hearG w a b).2.2 = 0 := h
   show szW (hearG w a b).1 ∧ fewC (hearG w a b).1
   unfold hearG at h ⊢
   cases hb : okW w with
   | false => rw [hb] at h; cases h
   | true =>
    rw [hb, cond_true] at h
    rw [cond_true]
    obtain ⟨x, y, _⟩ := hear_sends hz hb h
    exact ⟨y, fewC_of (okW_few x)⟩
 have wl : ∀ ks, (waitG w ks).length ≤ 100 := fun ks => by
  unfold waitG
  cases okW w with
  | false => simp
  | true => exact Nat.le_trans (waitL_le ks w.2.1) hf.1
 have q1 := wl []
 have q2 := wl [a, b]
 have r1 : room 8 (waitG w [] ++ [-1]).length = true := room_iff.2 (by simp; omega)
 have r2 : room 8 ((waitG w [] ++ [-1]) ++ waitG w [a, b]).length = true := room_iff.2 (by simp; omega)
 refine ⟨(w, (false, (0, (((waitG w [] ++ [-1]) ++ waitG w [a, b]), [])))), ?_, ?_, fun _ => ⟨hz, hf⟩, fun h => absurd rfl h, by unfold small; simp; omega, by simp, by simp⟩
 ·unfold g_law17_body
  simp only [eF d0, eF d1, eF d2, eF d3, Waiting_all hz (ks := []) (by simp), Waiting_all hz (ks := [a, b]) (by simp), Option.bind_some, r1, r2, cond_true]
 ·unfold g_law17_model
  simp only [eF d0, eF d1, eF d2, eF d3, r17_Waiting_eq hz (ks := []) (by simp), r17_Waiting_eq hz (ks := [a, b]) (by simp), Option.bind_some, r1, r2, cond_true]
theorem Did.sz {w : RS} {r : RS × TellT} (h : Did w r) : szW r.1 := by
 by_cases e : r.2.2.1 = 0
 ·exact (h.go e).1
 ·rw [h.bad e]; exact szZ
theorem does_round {L : List OpT} {x : RS} {i : Nat} (hl : L.length ≤ 60) (hi : i < L.length) (hM : ∀ o ∈ L, szM o.2.2.2) (hz : szW x) (hf : fewC x) :
  g_law17_RetryDoes_r1 (true, L, (L.length : Int), (i : Int), x, x, ()) = some (.inr (.inr (true, ()))) ∨
  ∃ x', g_law17_RetryDoes_r1 (true, L, (L.length : Int), (i : Int), x, x, ()) = some (.inl (true, L, (L.length : Int), ((i + 1 : Nat) : Int), x', x', ())) ∧ szW x' ∧ fewC x' := by
 obtain ⟨o, ho⟩ : ∃ o, L[i]? = some o := ⟨_, List.getElem?_eq_getElem hi⟩
 obtain ⟨bb, hbig⟩ := Big_tot o.2.2.2
 cases bb with
 | true =>
  left
  simp (disch := omega) only [g_law17_RetryDoes_r1, dT, wT, Int.toNat_natCast, gD ho, hbig, Option.bind_some, cond_true]
 | false =>
  right
  have ws : IntKind.i64.wrap ((i : Int) + 1) = ((i + 1 : Nat) : Int) := by rw [wrap_i64 (by omega) (by omega)]; rfl
  obtain ⟨r, r1, r2, hr⟩ := body_all (w := x) (o := o) hz hf (hM o (mem_of_get ho))
  have e1 := Equal17_refl hr.sz
  have e2 := tell_refl hr.nums hr.many hr.msgs
  have e3 := Equal17_refl hz
  have e4 := CopyC_eq hf
  have e5 := retry_Check_eq hz
  have e6 := r17_Check_eq hz
  by_cases he : r.2.2.1 = 0
  ·refine ⟨r.1, ?_, hr.go he⟩
   simp (disch := omega) only [g_law17_RetryDoes_r1, dT, wT, Int.toNat_natCast, gD ho, hbig, Option.bind_some, cond_false, e4, r1, r2, e1, e2, e3, e5, e6, Bool.not_true, bne_self_eq_false, eT he, ws]
  ·refine ⟨x, ?_, hz, hf⟩
   simp (disch := omega) only [g_law17_RetryDoes_r1, dT, wT, Int.toNat_natCast, gD ho, hbig, Option.bind_some, cond_false, e4, r1, r2, e1, e2, e3, e5, e6, Bool.not_true, bne_self_eq_false, eF he, ws]
theorem law_Does {w v : RS} {L : List OpT} (hz : szW w) (hv : szW v) (bw : byteW w) (bv : byteW v) (hM : ∀ o ∈ L, szM o.2.2.2) : g_law17_RetryDoes w v L = some true := by
 obtain ⟨b1, f1⟩ := few_tot hz
 obtain ⟨b2, f2⟩ := few_tot hv
 have hn1 : g_retry_New = some ((1, [], []) : RS) := rfl
 have hn2 : g_r17_New = some ((1, [], []) : RS) := rfl
 have hz1 : szW (1, [], []) := ⟨by simp, by simp, by simp, by simp⟩
 unfold g_law17_RetryDoes
 simp only [live17, Option.bind_some, f1, f2]
 cases b1 with
 | false => rfl
 | true =>
  cases b2 with
  | false => rfl
  | true =>
   simp only [Bool.not_true, cond_false, Option.bind_some]
   by_cases hl : L.length ≤ 60
   ·have hl' : decide ((L.length : Int) > 60) = false := decide_eq_false (by omega)
    simp only [hl', cond_false, retry_Same_eq hz hv, r17_Same_eq hz hv bw bv, Option.bind_some, beq_self_eq_true, Bool.not_true, hn1, hn2, Equal17_refl hz1, CopyC_eq (few_true hz f1)]
    have loop : ∃ r, iter g_law17_RetryDoes_r1 (true, L, (L.length : Int), 0, w, w, ()) = some r ∧ (r = .inl (true, ()) ∨ r = .inr (true, ())) := by
     refine iter_ex (f := g_law17_RetryDoes_r1) (fun y => (y.2.2.1 - y.2.2.2.1).toNat) (fun y => ∃ (i : Nat) (x : RS), y = (true, L, (L.length : Int), (i : Int), x, x, ()) ∧ i ≤ L.length ∧ szW x ∧ fewC x) (fun r => r = .inl (true, ()) ∨ r = .inr (true, ())) ?_ _ ⟨0, w, rfl, Nat.zero_le _, hz, few_true hz f1⟩
     rintro y ⟨i, x, rfl, h1, h2, h3⟩
     by_cases h : i < L.length
     ·rcases does_round hl h hM h2 h3 with r | ⟨x', r1, r2, r3⟩
      ·exact .inr ⟨_, r, .inr rfl⟩
      ·exact .inl ⟨_, r1, ⟨i + 1, x', rfl, h, r2, r3⟩, by simp only; omega⟩
     ·right
      refine ⟨_, ?_, .inl rfl⟩
      simp (disch := omega) only [g_law17_RetryDoes_r1, dF]
    obtain ⟨r, h1, h2⟩ := loop
    rw [h1, Option.bind_some]
    rcases h2 with rfl | rfl <;> rfl
   ·have hl' : decide ((L.length : Int) > 60) = true := decide_eq_true (by omega)
    simp only [hl', cond_true]
end Go.Sq
namespace Go.Sq
open Go.Rx
theorem wf_Byte {m : den MsgTy} (h : wf MsgTy m) : byteM m := by
 obtain ⟨_, _, _, _, _, _, _, _, _, _, h11⟩ := h
 intro x hx
 have := h11 x hx
 exact this
theorem wf_ByteW {w : den PostTy} (h : wf PostTy w) : byteW w := by
 obtain ⟨_, ⟨_, h2⟩, _, _⟩ := h
 exact fun s hs => wf_Byte (h2 s hs).2.1
theorem pure_RDoes (x : denL [(true, PostTy), (true, PostTy), (false, .sl (.pair (.int .i64) (.pair (.int .i64) (.pair (.int .i64) MsgTy))))]) (h : wfL _ x) : g_law17_RetryDoes x.1 x.2.1 x.2.2 = some true :=
 law_Does (wf_Post h.1) (wf_Post h.2.1) (wf_ByteW h.1) (wf_ByteW h.2.1) fun o ho => wf_Msg (h.2.2.2 o ho).2.2.2
end Go.Sq
