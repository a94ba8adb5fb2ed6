/- Parts of a proof: evaluation of Go code over typed values, and what it computes. -/
import Derived.Test.YtafinkfeghghkaaDoorL6
import Derived.Test.YtafinkfeghghkaaDoorF
import Derived.Laws.RangeString
import Derived.Laws.RangeAny
import Derived.Test.YtafinkfeghghkaaDoorL5
import Derived.KernelRfl
import Derived.Test.YtafinkfeghghkaaDoorX4
set_option linter.unusedSimpArgs false
set_option linter.unusedVariables false
set_option linter.unusedSectionVars false
namespace Go.Sq
open Go.Rx
theorem words_eq {d : Int × Int × Int × Int} : g_trace_word d.1 = g_r23_Word d := by
 obtain ⟨k, a, b, c⟩ := d
 show g_trace_word k = g_r23_Word (k, a, b, c)
 by_cases h0 : k < 0
 ·unfold g_trace_word g_r23_Word
  simp (disch := omega) only [dT, eF]
  rfl
 by_cases h1 : k ≥ 16
 ·unfold g_trace_word g_r23_Word
  simp (disch := omega) only [dT, dF, eF]
  rfl
 obtain ⟨n, rfl⟩ : ∃ n : Fin 16, k = ((n.1 : Nat) : Int) := ⟨⟨k.toNat, by omega⟩, by simp; omega⟩
 have : ∀ n : Fin 16, g_trace_word ((n.1 : Nat) : Int) = g_r23_Word (((n.1 : Nat) : Int), a, b, c) := by
  intro n
  obtain ⟨n, hn⟩ := n
  have : n = 0 ∨ n = 1 ∨ n = 2 ∨ n = 3 ∨ n = 4 ∨ n = 5 ∨ n = 6 ∨ n = 7 ∨ n = 8 ∨ n = 9 ∨ n = 10 ∨ n = 11 ∨ n = 12 ∨ n = 13 ∨ n = 14 ∨ n = 15 := by omega
  rcases this with rfl | rfl | rfl | rfl | rfl | rfl | rfl | rfl | rfl | rfl | rfl | rfl | rfl | rfl | rfl | rfl <;> (unfold g_trace_word; simp only [strEq_nil]; rfl)
 exact this n
theorem bytes_app (a b : List UInt8) : (⟨a.toArray⟩ : ByteArray) ++ ⟨b.toArray⟩ = ⟨(a ++ b).toArray⟩ := by
 apply ByteArray.ext
 simp [ByteArray.data_append]
theorem ext_one {s : ByteArray} {p : Nat} (h : p < s.size) : s.extract p (p + 1) = ⟨[s[p]].toArray⟩ := by
 apply ByteArray.ext
 rw [ByteArray.data_extract]
 apply Array.ext'
 have h' : p < s.data.toList.length := h
 simp only [Array.toList_extract, List.extract_eq_take_drop]
 rw [show p + 1 - p = 1 by omega, List.drop_eq_getElem_cons h']
 rfl
theorem low_rune {s : ByteArray} {p : Nat} (h : p < s.size) (hr : (Utf8.decode s p).1 < 128) : UInt8.ofNat (Utf8.decode s p).1 = s[p] ∧ (Utf8.decode s p).2 = 1 := by
 by_cases ha : (s[p]'h).toNat < 128
 ·rw [Go.decode_ascii s p h ha]
  exact ⟨by simp, rfl⟩
 ·exact absurd hr (by have := (Go.decode_high s p h (by omega)).1; omega)
theorem szT {A : Type} {a b : A} {n : Nat} (h : n ≤ 9223372036854775807) : (bif decide (((n : Nat) : Int) ≤ IntKind.i64.max) then a else b) = a := by
 have hmax : IntKind.i64.max = 9223372036854775807 := by decide
 exact dT (by rw [hmax]; omega)
theorem catT {A : Type} {a : List UInt8} {c : UInt8} {x y : A} (h : a.length ≤ 1000000) : (bif decide ((((⟨a.toArray⟩ : ByteArray).size + (⟨[c].toArray⟩ : ByteArray).size : Nat) : Int) ≤ IntKind.i64.max) then x else y) = x := by
 have hsz : ∀ l : List UInt8, (⟨l.toArray⟩ : ByteArray).size = l.length := fun l => by simp [ByteArray.size]
 have e := hsz a
 have e' : (⟨[c].toArray⟩ : ByteArray).size = 1 := hsz [c]
 exact szT (by omega)
theorem Text_letter {s : ByteArray} {p rl : Nat} {ra : Int} {acc : List UInt8} {c : UInt8} (h0 : p < s.size) (hs : s.size ≤ 2000) (hal : acc.length ≤ p) (hra : runeAt s p = ra) (hrl : runeLen s p = rl) (h1 : 97 ≤ ra) (h2 : ra ≤ 122) (hx : s.extract p (p + 1) = ⟨[c].toArray⟩) :
  g_r23_Text_r1 (s, ⟨acc.toArray⟩, (s, (p : Int)), ()) = some (.inl (s, ⟨(acc ++ [c]).toArray⟩, (s, ((p + rl : Nat) : Int)), ())) := by
 have ws : IntKind.i64.wrap ((p : Int) + 1) = ((p + 1 : Nat) : Int) := by rw [wrap_i64 (by omega) (by omega)]; rfl
 have hw : (((p : Int) + (rl : Int)).toNat : Int) = ((p + rl : Nat) : Int) := by omega
 unfold g_r23_Text_r1
 dsimp only
 rw [dT (by rw [Int.toNat_natCast]; exact h0), Int.toNat_natCast, hra, hrl, dT (show ra ≥ 97 from h1)]
 rw [Option.bind_some]
 dsimp only
 rw [decide_eq_true h2]
 rw [cond_true, ws, gT (Int.natCast_nonneg p) (by omega) (Int.ofNat_le.2 h0), Int.toNat_natCast, Int.toNat_natCast, hx, catT (by omega), bytes_app, hw]
theorem Text_other {s : ByteArray} {p rl : Nat} {ra : Int} {acc : List UInt8} (h0 : p < s.size) (hs : s.size ≤ 2000) (hal : acc.length ≤ p) (hra : runeAt s p = ra) (hrl : runeLen s p = rl) (h1 : ¬ (97 ≤ ra ∧ ra ≤ 122)) :
  g_r23_Text_r1 (s, ⟨acc.toArray⟩, (s, (p : Int)), ()) = some (.inl (s, ⟨(acc ++ [46]).toArray⟩, (s, ((p + rl : Nat) : Int)), ())) := by
 have hw : (((p : Int) + (rl : Int)).toNat : Int) = ((p + rl : Nat) : Int) := by omega
 have e46 : (ByteArray.mk #[46]) = ⟨[46].toArray⟩ := rfl
 unfold g_r23_Text_r1
 dsimp only
 rw [dT (by rw [Int.toNat_natCast]; exact h0), Int.toNat_natCast, hra, hrl]
 by_cases h97 : ra ≥ 97
 ·rw [dT h97, Option.bind_some]
  dsimp only
  rw [decide_eq_false (show ¬ ra ≤ 122 by omega), cond_false, e46, catT (by omega), bytes_app, hw]
 ·rw [dF h97, Option.bind_some]
  dsimp only
  rw [cond_false, e46, catT (by omega), bytes_app, hw]
theorem Text_eq {s : ByteArray} (hs : s.size ≤ 2000) : g_r23_Text s = some (ptsT s) := by
 obtain ⟨r, h1, h2⟩ := iter_ex (f := g_r23_Text_r1) (fun x => s.size - x.2.2.1.2.toNat)
  (fun x => x.1 = s ∧ x.2.2.1.1 = s ∧ ∃ (p f : Nat) (acc : List UInt8), x.2.2.1.2 = (p : Int) ∧ x.2.1 = ⟨acc.toArray⟩ ∧ s.size ≤ p + f ∧ acc.length ≤ p ∧ p ≤ s.size + 4 ∧ acc ++ ptsF s f p = ptsF s s.size 0)
  (fun r => r.1 = ptsT s) (fun x hx => by
   obtain ⟨t, out, ⟨t', pp⟩, u⟩ := x
   obtain ⟨e1, e2, p, f, acc, e3, e4, hf, hal, hp4, hacc⟩ := hx
   have e1 : t = s := e1
   have e2 : t' = s := e2
   have e3 : pp = (p : Int) := e3
   have e4 : out = ⟨acc.toArray⟩ := e4
   subst e1 e2 e3 e4
   by_cases h0 : p < t'.size
   ·left
    obtain ⟨f, rfl⟩ : ∃ g, f = g + 1 := ⟨f - 1, by omega⟩
    have hl := runeLen_pos t' p
    have hl2 : runeLen t' p = (Utf8.decode t' p).2 := rfl
    have hr2 : runeAt t' p = ((Utf8.decode t' p).1 : Int) := rfl
    have hsz : ∀ l : List UInt8, (⟨l.toArray⟩ : ByteArray).size = l.length := fun l => by simp [ByteArray.size]
    have hw : (((p : Int) + (runeLen t' p : Int)).toNat : Int) = ((p + runeLen t' p : Nat) : Int) := by omega
    have hmax : IntKind.i64.max = 9223372036854775807 := by decide
    by_cases hc : 97 ≤ (Utf8.decode t' p).1 ∧ (Utf8.decode t' p).1 ≤ 122
    ·obtain ⟨b1, b2⟩ := low_rune h0 (by omega)
     have ws : IntKind.i64.wrap ((p : Int) + 1) = ((p + 1 : Nat) : Int) := by rw [wrap_i64 (by omega) (by omega)]; rfl
     have hx := ext_one h0
     refine ⟨(t', ⟨(acc ++ [t'[p]]).toArray⟩, (t', ((p + runeLen t' p : Nat) : Int)), ()), ?_, ⟨rfl, rfl, p + runeLen t' p, f, _, rfl, rfl, by omega, by rw [List.length_append, List.length_singleton]; omega, by omega, ?_⟩, ?_⟩
     ·exact Text_letter h0 hs hal rfl rfl (by rw [hr2]; omega) (by rw [hr2]; omega) hx
     ·rw [← hacc, ptsF, if_pos h0, if_pos hc, b1, hl2]; simp
     ·show t'.size - ((p + runeLen t' p : Nat) : Int).toNat < t'.size - (p : Int).toNat
      omega
    ·skip
     refine ⟨(t', ⟨(acc ++ [46]).toArray⟩, (t', ((p + runeLen t' p : Nat) : Int)), ()), ?_, ⟨rfl, rfl, p + runeLen t' p, f, _, rfl, rfl, by omega, by rw [List.length_append, List.length_singleton]; omega, by omega, ?_⟩, ?_⟩
     ·exact Text_other h0 hs hal rfl rfl (by rw [hr2]; omega)
     ·rw [← hacc, ptsF, if_pos h0, if_neg hc, hl2]; simp
     ·show t'.size - ((p + runeLen t' p : Nat) : Int).toNat < t'.size - (p : Int).toNat
      omega
   ·right
    refine ⟨(⟨acc.toArray⟩, ()), by unfold g_r23_Text_r1; dsimp only; rw [dF (by rw [Int.toNat_natCast]; exact h0)], ?_⟩
    have : ptsF t' f p = [] := by cases f with
     | zero => rfl
     | succ f => rw [ptsF, if_neg h0]
    rw [this, List.append_nil] at hacc
    show (⟨acc.toArray⟩ : ByteArray) = ptsT t'
    rw [hacc]; rfl) (s, ByteArray.mk #[], (s, 0), ()) ⟨rfl, rfl, 0, s.size, [], rfl, rfl, by omega, Nat.le_refl _, by omega, rfl⟩
 unfold g_r23_Text
 rw [h1, Option.bind_some, h2]
theorem strEq_refl (s : ByteArray) : strEq s s = true := beq_self_eq_true _
end Go.Sq
namespace Go.Sq
open Go.Rx
theorem enc_low {n : Nat} (h : n < 128) : Utf8.encode (n : Int) = ⟨[UInt8.ofNat n].toArray⟩ := by
 have hv : Utf8.valid (n : Int) = true := by
  unfold Utf8.valid
  simp
  omega
 unfold Utf8.encode
 simp only [hv, if_true, Int.toNat_natCast]
 rw [if_pos (by omega)]
theorem wrap_i32 {n : Int} (h : -2147483648 ≤ n) (h' : n < 2147483648) : IntKind.i32.wrap n = n := by
 simp only [IntKind.wrap, IntKind.bits, IntKind.signed]; simp; split <;> omega
theorem dec_len : ∀ u : Nat, (Lib.decDigits u).length ≤ u + 1 := by
 intro u
 induction u using Nat.strongRecOn with
 | _ u ih =>
  rw [Lib.decDigits]
  split
  ·simp
  ·have := ih (u / 10) (by omega)
   rw [List.length_append, List.length_singleton]
   omega
theorem itoa_len (n : Int) : (itoaT n).size ≤ n.natAbs + 2 := by
 have hsz : ∀ l : List UInt8, (⟨l.toArray⟩ : ByteArray).size = l.length := fun l => by simp [ByteArray.size]
 unfold itoaT
 rw [hsz]
 unfold Lib.itoa
 split
 ·have := dec_len n.natAbs
  rw [List.length_cons]; omega
 ·have := dec_len n.toNat
  omega
def cellD (rec : Int → Option ByteArray) (x y : Int) : Prop :=
 (rec y = none → g_r23_Digits_F rec x = none) ∧ (rec y = some (itoaT y) → g_r23_Digits_F rec x = some (itoaT x))
theorem dig_small {rec : Int → Option ByteArray} {x : Int} (h0 : 0 ≤ x) (h1 : x < 10) : g_r23_Digits_F rec x = some (itoaT x) := by
 obtain ⟨n, rfl⟩ : ∃ n : Nat, x = (n : Int) := ⟨x.toNat, by omega⟩
 unfold g_r23_Digits_F
 rw [dF (by omega), dT h1, wrap_i64 (by omega) (by omega), wrap_i32 (by omega) (by omega), show (48 : Int) + (n : Int) = ((48 + n : Nat) : Int) by omega, enc_low (by omega)]
 unfold itoaT Lib.itoa
 rw [if_neg (by omega), Int.toNat_natCast, Lib.decDigits, dif_pos (by omega)]
theorem dig_big {rec : Int → Option ByteArray} {n : Nat} (h1 : 10 ≤ n) (h2 : n ≤ 9223372036854775807) : cellD rec (n : Int) ((n / 10 : Nat) : Int) := by
 have hw : IntKind.i64.wrap ((n : Int).tdiv 10) = ((n / 10 : Nat) : Int) := by
  rw [show (n : Int).tdiv 10 = ((n / 10 : Nat) : Int) from rfl, wrap_i64 (by omega) (by omega)]
 have he : Utf8.encode (IntKind.i32.wrap (IntKind.i64.wrap (48 + (n : Int).tmod 10))) = ⟨[UInt8.ofNat (48 + n % 10)].toArray⟩ := by
  rw [show (n : Int).tmod 10 = ((n % 10 : Nat) : Int) from rfl, wrap_i64 (by omega) (by omega), wrap_i32 (by omega) (by omega), show (48 : Int) + ((n % 10 : Nat) : Int) = ((48 + n % 10 : Nat) : Int) by omega, enc_low (by omega)]
 have e1 : (⟨[UInt8.ofNat (48 + n % 10)].toArray⟩ : ByteArray).size = 1 := rfl
 refine ⟨fun h => ?_, fun h => ?_⟩
 ·unfold g_r23_Digits_F
  rw [dF (by omega), dF (by omega), hw, h]; rfl
 ·have hl := itoa_len ((n / 10 : Nat) : Int)
  unfold g_r23_Digits_F
  rw [dF (by omega), dF (by omega), hw, h, Option.bind_some, he, szT (by omega)]
  unfold itoaT
  rw [bytes_app]
  unfold Lib.itoa
  rw [if_neg (by omega), if_neg (by omega), Int.toNat_natCast, Int.toNat_natCast]
  conv => rhs; rw [Lib.decDigits, dif_neg (show ¬ n < 10 by omega)]
theorem dig_neg1 {rec : Int → Option ByteArray} {n : Nat} (h1 : 1 ≤ n) (h2 : n < 10) : cellD rec (-(n : Int)) (n : Int) := by
 have hw : IntKind.i64.wrap (0 - -(n : Int)) = (n : Int) := by rw [wrap_i64 (by omega) (by omega)]; omega
 have e45 : (ByteArray.mk #[45]) = ⟨[45].toArray⟩ := rfl
 have e1 : (⟨[45].toArray⟩ : ByteArray).size = 1 := rfl
 refine ⟨fun h => ?_, fun h => ?_⟩
 ·unfold g_r23_Digits_F
  rw [dT (by omega), dT (by omega), hw, h]; rfl
 ·have hl := itoa_len (n : Int)
  unfold g_r23_Digits_F
  rw [dT (by omega), dT (by omega), hw, h, Option.bind_some, e45, szT (by omega)]
  unfold itoaT
  rw [bytes_app]
  unfold Lib.itoa
  rw [if_neg (by omega), if_pos (by omega), Int.toNat_natCast, Int.natAbs_neg, Int.natAbs_natCast]
  rfl
theorem dig_neg2 {rec : Int → Option ByteArray} {n : Nat} (h1 : 10 ≤ n) (h2 : n ≤ 9223372036854775808) : cellD rec (-(n : Int)) (-((n / 10 : Nat) : Int)) := by
 have hw : IntKind.i64.wrap ((-(n : Int)).tdiv 10) = -((n / 10 : Nat) : Int) := by
  rw [Int.neg_tdiv, show (n : Int).tdiv 10 = ((n / 10 : Nat) : Int) from rfl, wrap_i64 (by omega) (by omega)]
 have he : Utf8.encode (IntKind.i32.wrap (IntKind.i64.wrap (48 - (-(n : Int)).tmod 10))) = ⟨[UInt8.ofNat (48 + n % 10)].toArray⟩ := by
  rw [Int.neg_tmod, show (n : Int).tmod 10 = ((n % 10 : Nat) : Int) from rfl, wrap_i64 (by omega) (by omega), wrap_i32 (by omega) (by omega), show (48 : Int) - -((n % 10 : Nat) : Int) = ((48 + n % 10 : Nat) : Int) by omega, enc_low (by omega)]
 have e1 : (⟨[UInt8.ofNat (48 + n % 10)].toArray⟩ : ByteArray).size = 1 := rfl
 refine ⟨fun h => ?_, fun h => ?_⟩
 ·unfold g_r23_Digits_F
  rw [dT (by omega), dF (by omega), hw, h]; rfl
 ·have hl := itoa_len (-((n / 10 : Nat) : Int))
  unfold g_r23_Digits_F
  rw [dT (by omega), dF (by omega), hw, h, Option.bind_some, he, szT (by omega)]
  unfold itoaT
  rw [bytes_app]
  unfold Lib.itoa
  rw [if_pos (by omega), if_pos (by omega), Int.natAbs_neg, Int.natAbs_natCast, Int.natAbs_neg, Int.natAbs_natCast]
  conv => rhs; rw [Lib.decDigits, dif_neg (show ¬ n < 10 by omega)]
  rfl
noncomputable abbrev digF : (Int → Option ByteArray) → Int → Option ByteArray := fun rec x => g_r23_Digits_F rec x
def digOK (x : Int) : Prop := (∀ n, fixN digF n x = none ∨ fixN digF n x = some (itoaT x)) ∧ ∃ n, fixN digF n x = some (itoaT x)
theorem dig_via {x y : Int} (h : ∀ rec, cellD rec x y) (hy : digOK y) : digOK x := by
 refine ⟨fun n => ?_, ?_⟩
 ·cases n with
  | zero => exact .inl rfl
  | succ n =>
   rcases hy.1 n with e | e
   ·exact .inl ((h (fixN digF n)).1 e)
   ·exact .inr ((h (fixN digF n)).2 e)
 ·obtain ⟨n, e⟩ := hy.2
  exact ⟨n + 1, (h (fixN digF n)).2 e⟩
theorem dig_pos : ∀ n : Nat, n ≤ 9223372036854775807 → digOK (n : Int) := by
 intro n
 induction n using Nat.strongRecOn with
 | _ n ih =>
  intro hn
  by_cases h : n < 10
  ·have hs : ∀ rec, g_r23_Digits_F rec (n : Int) = some (itoaT (n : Int)) := fun rec => dig_small (by omega) (by omega)
   refine ⟨fun k => ?_, 1, hs _⟩
   cases k with
   | zero => exact .inl rfl
   | succ k => exact .inr (hs _)
  ·exact dig_via (fun rec => dig_big (by omega) hn) (ih (n / 10) (by omega) (by omega))
theorem dig_neg : ∀ n : Nat, 1 ≤ n → n ≤ 9223372036854775808 → digOK (-(n : Int)) := by
 intro n
 induction n using Nat.strongRecOn with
 | _ n ih =>
  intro h1 hn
  by_cases h : n < 10
  ·exact dig_via (fun rec => dig_neg1 h1 h) (dig_pos n (by omega))
  ·exact dig_via (fun rec => dig_neg2 (by omega) hn) (ih (n / 10) (by omega) (by omega) (by omega))
theorem Digits_eq {x : Int} (h1 : -9223372036854775808 ≤ x) (h2 : x ≤ 9223372036854775807) : g_r23_Digits x = some (itoaT x) := by
 have hk : digOK x := by
  by_cases h : 0 ≤ x
  ·have := dig_pos x.toNat (by omega)
   rwa [show ((x.toNat : Nat) : Int) = x by omega] at this
  ·have := dig_neg (-x).toNat (by omega) (by omega)
   rwa [show -(((-x).toNat : Nat) : Int) = x by omega] at this
 obtain ⟨n, hn⟩ := hk.2
 exact fixO_eq hk.1 n hn
end Go.Sq
namespace Go.Sq
open Go.Rx
abbrev Dc := Int × Int × Int × Int
abbrev Jd := Int × Int × Bool
def fineT (j : Jd) (d : Dc) : Bool × Jd :=
 bif (d.1 == 5) && ((d.2.1 == d.2.1) && ((d.2.2.1 == d.2.2.1) && ((d.2.2.2 == 0) && true))) then
  bif decide (d.2.1 ≤ 0) then (false, j) else
  bif d.2.2.1 == IntKind.i64.wrap (j.1 + 1) then (true, (d.2.2.1, (d.2.1, false))) else
  bif d.2.2.1 == j.1 then (bif d.2.1 == j.2.1 then (!j.2.2, j) else (false, j)) else (false, j)
 else bif (d.1 == 8) && ((d.2.1 == j.2.1) && ((d.2.2.1 == j.1) && ((d.2.2.2 == 0) && true))) then
  (decide (j.2.1 > 0), (j.1, (j.2.1, bif j.2.2 then true else decide (j.2.1 > 0))))
 else bif (d.1 == 10) && ((d.2.1 == 0) && ((d.2.2.1 == j.1) && ((d.2.2.2 == 0) && true))) then
  (decide (j.2.1 > 0), (j.1, (0, false)))
 else bif (d.1 == 7) && ((d.2.1 == d.2.1) && ((d.2.2.1 == 0) && ((d.2.2.2 == d.2.2.2) && true))) then
  (bif decide (j.2.1 > 0) then bif decide (d.2.1 > 0) then bif d.2.1 != j.2.1 then bif decide (d.2.2.2 ≥ 1) then decide (d.2.2.2 ≤ 4) else false else false else false else false, j)
 else bif (bif (d.1 == 6) && ((d.2.1 == d.2.1) && ((d.2.2.1 == 0) && ((d.2.2.2 == 0) && true))) then true else (d.1 == 15) && ((d.2.1 == d.2.1) && ((d.2.2.1 == j.1) && ((d.2.2.2 == 0) && true)))) then
  (decide (d.2.1 > 0), j)
 else (false, j)
theorem judge_round {l : List Dc} {j : Jd} {i : Nat} {d : Dc} (hi : l[i]? = some d) (hl : l.length ≤ 1000000) :
  g_trace_Judge_r1 (l, l, (l.length : Int), (i : Int), j, ()) = some (bif (fineT j d).1 then .inl (l, l, (l.length : Int), ((i + 1 : Nat) : Int), (fineT j d).2, ()) else .inr (.inr ((i : Int), false, ()))) := by
 have hi2 := lt_of_get hi
 have ws : IntKind.i64.wrap ((i : Int) + 1) = ((i + 1 : Nat) : Int) := by rw [wrap_i64 (by omega) (by omega)]; rfl
 unfold g_trace_Judge_r1
 dsimp only
 rw [dT (by omega), wT (by omega) (by omega), Int.toNat_natCast, gD hi, ← ws]
 obtain ⟨e, h, r⟩ := j
 unfold fineT
 dsimp only
 generalize ((d.1 == 5) && ((d.2.1 == d.2.1) && ((d.2.2.1 == d.2.2.1) && ((d.2.2.2 == 0) && true)))) = b5
 generalize ((d.1 == 8) && ((d.2.1 == h) && ((d.2.2.1 == e) && ((d.2.2.2 == 0) && true)))) = b8
 generalize ((d.1 == 10) && ((d.2.1 == 0) && ((d.2.2.1 == e) && ((d.2.2.2 == 0) && true)))) = b10
 generalize ((d.1 == 7) && ((d.2.1 == d.2.1) && ((d.2.2.1 == 0) && ((d.2.2.2 == d.2.2.2) && true)))) = b7
 generalize ((d.1 == 6) && ((d.2.1 == d.2.1) && ((d.2.2.1 == 0) && ((d.2.2.2 == 0) && true)))) = b6
 generalize ((d.1 == 15) && ((d.2.1 == d.2.1) && ((d.2.2.1 == e) && ((d.2.2.2 == 0) && true)))) = b15
 generalize (d.2.2.1 == IntKind.i64.wrap (e + 1)) = c1
 generalize (d.2.2.1 == e) = c2
 generalize (d.2.1 == h) = c3
 generalize decide (d.2.1 ≤ 0) = c4
 generalize decide (h > 0) = c5
 generalize (d.2.1 != h) = c7
 generalize decide (d.2.2.2 ≥ 1) = c8
 generalize decide (d.2.2.2 ≤ 4) = c9
 cases b5
 ·cases b8
  ·cases b10
   ·cases b7
    ·have hk : (bif !decide (d.2.1 > 0) then some (Sum.inr (Sum.inr ((i : Int), false, ()))) else some (Sum.inl (l, l, (l.length : Int), IntKind.i64.wrap ((i : Int) + 1), (e, h, r), ())) : Option ((List Dc × List Dc × Int × Int × Jd × Unit) ⊕ ((List Dc × Unit) ⊕ (Int × Bool × Unit)))) =
       some (bif decide (d.2.1 > 0) then Sum.inl (l, l, (l.length : Int), IntKind.i64.wrap ((i : Int) + 1), (e, h, r), ()) else Sum.inr (Sum.inr ((i : Int), false, ()))) := by cases decide (d.2.1 > 0) <;> rfl
     cases b6
     ·cases b15
      ·rfl
      ·refine Eq.trans hk ?_
       cases decide (d.2.1 > 0) <;> rfl
     ·refine Eq.trans hk ?_
      cases decide (d.2.1 > 0) <;> rfl
    ·cases c5 <;> cases decide (d.2.1 > 0) <;> cases c7 <;> cases c8 <;> cases c9 <;> rfl
   ·cases c5 <;> rfl
  ·cases r <;> cases c5 <;> rfl
 ·cases c4 <;> cases c1 <;> cases c2 <;> cases c3 <;> cases r <;> rfl
def goodN : Jd → List Dc → Nat
 | _, [] => 0
 | j, d :: l => bif (fineT j d).1 then goodN (fineT j d).2 l + 1 else 0
theorem judge_iter {l : List Dc} (hl : l.length ≤ 1000000) : ∀ (l2 l1 : List Dc) (j : Jd), l = l1 ++ l2 →
  iter g_trace_Judge_r1 (l, l, (l.length : Int), (l1.length : Int), j, ()) = some (bif goodN j l2 == l2.length then .inl (l, ()) else .inr (((l1.length + goodN j l2 : Nat) : Int), false, ()))
 | [], l1, j, e => by
  refine iter_inr ?_
  rw [List.append_nil] at e
  unfold g_trace_Judge_r1
  dsimp only
  rw [dF (by rw [e]; omega)]
  rfl
 | d :: l2, l1, j, e => by
  have hr := judge_round (l := l) (j := j) (i := l1.length) (d := d) (by rw [e]; simp) hl
  unfold goodN
  cases hf : (fineT j d).1 with
  | true =>
   rw [hf, cond_true] at hr
   rw [iter_inl hr, cond_true]
   have := judge_iter hl l2 (l1 ++ [d]) (fineT j d).2 (by rw [e]; simp)
   rw [List.length_append, List.length_singleton] at this
   rw [this, List.length_cons]
   have e1 : (goodN (fineT j d).2 l2 + 1 == l2.length + 1) = (goodN (fineT j d).2 l2 == l2.length) := by simp
   rw [e1]
   have e2 : l1.length + 1 + goodN (fineT j d).2 l2 = l1.length + (goodN (fineT j d).2 l2 + 1) := by omega
   rw [e2]
  | false =>
   rw [hf, cond_false] at hr
   rw [iter_inr hr, cond_false, List.length_cons]
   have e1 : (0 == l2.length + 1) = false := by simp
   rw [e1]; rfl
def j0 : Jd := (0, 0, false)
theorem Judge_eq {l : List Dc} (hl : l.length ≤ 1000000) : g_trace_Judge l = some ((goodN j0 l : Int), goodN j0 l == l.length) := by
 unfold g_trace_Judge
 rw [show iter g_trace_Judge_r1 (l, l, (l.length : Int), 0, (0, (0, false)), ()) = _ from judge_iter hl l [] j0 rfl, Option.bind_some]
 cases h : goodN j0 l == l.length
 ·simp
 ·simp only [cond_true]
  rw [beq_iff_eq.1 h]
def hd (p : List Dc) : Int := (p.getD 0 (0, (0, (0, 0)))).2.1
end Go.Sq
namespace Go.Sq
open Go.Rx
theorem itoa7 : strEq (itoaT (-7)) (ByteArray.mk #[45, 55]) = true := by
 have : itoaT (-7) = ByteArray.mk #[45, 55] := by
  unfold itoaT Lib.itoa
  rw [if_pos (by decide), show (-7 : Int).natAbs = 7 from rfl, Lib.decDigits, dif_pos (by decide)]
  rfl
 rw [this]; exact strEq_refl _
theorem pointsT {s : ByteArray} (h : s.size ≤ 35184372088832) : g_trace_points s = some (ptsT s) := by
 unfold g_trace_points
 rw [decide_eq_true h]; rfl
theorem itoaE {n : Int} (h1 : -9223372036854775808 ≤ n) (h2 : n ≤ 9223372036854775807) : g_strconv_Itoa n = some (itoaT n) := by
 unfold g_strconv_Itoa
 rw [decide_eq_true h1, decide_eq_true h2]; rfl
theorem live23 : g_law23_live = some true := by
 have h3 : strEq (ptsT (ByteArray.mk #[97, 66])) (ByteArray.mk #[97, 46]) = true := by kernel_rfl
 have e1 : g_trace_Judge [(5, (1, (2, 0)))] = some (0, false) := by rw [Judge_eq (by decide)]; rfl
 have e2 : g_trace_Judge [(5, (1, (1, 0))), (10, (0, (1, 0)))] = some (2, true) := by rw [Judge_eq (by decide)]; rfl
 unfold g_law23_live
 rw [e1, e2, Option.bind_some, Option.bind_some, pointsT (by decide), Option.bind_some, h3, itoaE (by decide) (by decide), Option.bind_some, itoa7, strEq_refl]
 rfl
theorem TraceWords_true {d : Dc} {s : ByteArray} {n : Int} (h1 : -9223372036854775808 ≤ n) (h2 : n ≤ 9223372036854775807) : g_law23_TraceWords d s n = some true := by
 unfold g_law23_TraceWords
 rw [live23, Option.bind_some]
 simp only [Bool.not_true, cond_false, cond_true]
 by_cases hs : (s.size : Int) > 2000
 ·rw [dT hs]
 ·rw [dF hs, words_eq]
  obtain ⟨w, hw⟩ : ∃ w, g_r23_Word d = some w := by
   unfold g_r23_Word
   cases (d.1 == 5) <;> cases (d.1 == 6) <;> cases (d.1 == 7) <;> cases (d.1 == 8) <;> cases (d.1 == 10) <;> cases (d.1 == 15) <;> exact ⟨_, rfl⟩
  rw [hw, Option.bind_some, Option.bind_some, strEq_refl, cond_true, pointsT (by omega), Text_eq (by omega), Option.bind_some, Option.bind_some, strEq_refl, cond_true, itoaE h1 h2, Digits_eq h1 h2, Option.bind_some, Option.bind_some, strEq_refl, cond_true, strEq_refl, cond_true, cond_true]
end Go.Sq
namespace Go.Sq
open Go.Rx
abbrev DcTy : Ty := .pair (.int .i64) (.pair (.int .i64) (.pair (.int .i64) (.int .i64)))
theorem pure_TWords (x : denL [(true, DcTy), (false, .str), (false, .int .i64)]) (h : wfL _ x) : g_law23_TraceWords x.1 x.2.1 x.2.2 = some true := TraceWords_true h.2.2.1 h.2.2.2
end Go.Sq
