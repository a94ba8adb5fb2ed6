/- Parts of a proof: evaluation of Go code over typed values, and what it computes. -/
import Derived.Test.YtkhndaanjpmgnaaDoorL1
import Derived.KernelRfl
import Derived.Test.YtkhndaanjpmgnaaDoorX4
set_option linter.unusedSimpArgs false
set_option linter.unusedVariables false
set_option linter.unusedSectionVars false
namespace Go.Sq
open Go.Rx
def bI (l : List Bool) (i : Nat) : Int := (((l.getD i false).toNat : Nat) : Int)
abbrev DecT := Int × Int × Int × (List Int × Int) × Int
end Go.Sq
namespace Go.Sq
open Go.Rx
def codeS (l : List Bool) : Nat → Int
 | 0 => 0
 | n + 1 => 2 * codeS l n + bI l n
def zDec : DecT := (0, (0, (0, (([], 0), 0))))
end Go.Sq
namespace Go.Sq
open Go.Rx
end Go.Sq
namespace Go.Sq
open Go.Rx
end Go.Sq
namespace Go.Sq
open Go.Rx
noncomputable def NextF (d : DecT) (C : List Int) : DecT × Int × Int := (g_coder_Next d C).getD (zDec, (0, 1))
theorem Equal_eq {a b : List Int} (ha : small a) (hb : small b) : g_r03_Equal a b = some (decide (a = b)) := by
 unfold small at ha hb
 by_cases h : a.length = b.length
 ·have loop : ∃ r, iter g_r03_Equal_r1 (a, b, (a.length : Int), 0, ()) = some r ∧ ((r = (.inl () : Unit ⊕ (Bool × Unit)) ∧ a = b) ∨ (r = .inr (false, ()) ∧ a ≠ b)) := by
   refine iter_ex (fun x => ((a.length : Int) - x.2.2.2.1).toNat) (fun x => ∃ i : Nat, x = (a, b, (a.length : Int), (i : Int), ()) ∧ i ≤ a.length ∧ ∀ j, j < i → a.getD j 0 = b.getD j 0)
    (fun r => (r = (.inl () : Unit ⊕ (Bool × Unit)) ∧ a = b) ∨ (r = .inr (false, ()) ∧ a ≠ b)) ?_ _ ⟨0, rfl, Nat.zero_le _, fun j hj => by omega⟩
   rintro x ⟨i, rfl, h1, h2⟩
   by_cases h3 : i < a.length
   ·by_cases h4 : a.getD i 0 = b.getD i 0
    ·left
     refine ⟨(a, b, (a.length : Int), ((i + 1 : Nat) : Int), ()), ?_, ⟨i + 1, rfl, h3, fun j hj => ?_⟩, by simp only; omega⟩
     ·simp (disch := omega) only [g_r03_Equal_r1, dT, wT, Int.toNat_natCast, nF, wrap_i64]
      rfl
     ·rcases Nat.lt_or_eq_of_le (Nat.lt_succ_iff.1 hj) with h | rfl
      ·exact h2 j h
      ·exact h4
    ·right
     refine ⟨_, ?_, .inr ⟨rfl, fun e => h4 (by rw [e])⟩⟩
     simp (disch := omega) only [g_r03_Equal_r1, dT, wT, Int.toNat_natCast, nT]
   ·right
    refine ⟨_, ?_, .inl ⟨rfl, ext_getD h fun k hk => h2 k (by omega)⟩⟩
    simp (disch := omega) only [g_r03_Equal_r1, dF]
  obtain ⟨r, h1, h2⟩ := loop
  rcases h2 with ⟨rfl, h2⟩ | ⟨rfl, h2⟩
  ·rw [decide_eq_true h2]
   simp (disch := omega) only [g_r03_Equal, nF, h1, Option.bind_some]
  ·rw [decide_eq_false h2]
   simp (disch := omega) only [g_r03_Equal, nF, h1, Option.bind_some]
 ·rw [decide_eq_false (fun e => h (by rw [e]))]
  simp (disch := omega) only [g_r03_Equal, nT]
end Go.Sq
namespace Go.Sq
open Go.Rx
end Go.Sq
namespace Go.Sq
open Go.Rx
end Go.Sq
namespace Go.Sq
open Go.Rx
end Go.Sq
namespace Go.Sq
open Go.Rx
end Go.Sq
namespace Go.Sq
open Go.Rx
end Go.Sq
namespace Go.Sq
open Go.Rx
def bval : List Bool → Nat
 | [] => 0
 | b :: l => b.toNat * 2 ^ l.length + bval l
end Go.Sq
namespace Go.Sq
open Go.Rx
def base (l : List Bool) (w : Nat) : Int := (bval l : Int) * (4294967296 * 2 ^ w) + 2147483648 * (2 ^ w - 1)
def seen (B : List Bool) (w : Nat) (l : List Bool) : Int := codeS B (l.length + w + 32) - base l w
end Go.Sq
namespace Go.Sq
open Go.Rx
end Go.Sq
namespace Go.Sq
open Go.Rx
end Go.Sq
