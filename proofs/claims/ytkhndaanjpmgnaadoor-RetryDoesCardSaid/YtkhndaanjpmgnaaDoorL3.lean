/- Parts of a proof: evaluation of Go code over typed values, and what it computes. -/
import Derived.Test.YtkhndaanjpmgnaaDoorL2
import Derived.KernelRfl
set_option linter.unusedSimpArgs false
set_option linter.unusedVariables false
set_option linter.unusedSectionVars false
namespace Go.Sq
open Go.Rx
theorem iter_n {X R : Type} {f : X → Option (X ⊕ R)} {x : X} {r : R} : ∀ n, iterN f n x = some r → iter f x = some r
 | 0, h => by cases h
 | n + 1, h => by
  simp only [iterN] at h
  cases hf : f x with
  | none => rw [hf] at h; cases h
  | some z =>
   rw [hf] at h
   cases z with
   | inl y => rw [iter_inl hf]; exact iter_n n h
   | inr s => rw [iter_inr hf]; exact h
theorem iter_to {X R : Type} {f : X → Option (X ⊕ R)} (st : Nat → X) : ∀ n, (∀ i, i < n → f (st i) = some (.inl (st (i + 1)))) → iter f (st 0) = iter f (st n)
 | 0, _ => rfl
 | n + 1, h => (iter_to st n fun i hi => h i (by omega)).trans (iter_inl (h n (by omega)))
theorem iter_count {X R : Type} {f : X → Option (X ⊕ R)} (st : Nat → X) (n : Nat) {r : R} (h : ∀ i, i < n → f (st i) = some (.inl (st (i + 1)))) (h' : f (st n) = some (.inr r)) : iter f (st 0) = some r :=
 (iter_to st n h).trans (iter_inr h')
theorem first_not (p : Nat → Prop) [DecidablePred p] : ∀ n, (∀ i, i < n → p i) ∨ ∃ k, k < n ∧ (∀ i, i < k → p i) ∧ ¬ p k
 | 0 => .inl fun i hi => absurd hi (Nat.not_lt_zero i)
 | n + 1 => by
  rcases first_not p n with h | ⟨k, h1, h2, h3⟩
  ·by_cases hn : p n
   ·exact .inl fun i hi => (Nat.lt_succ_iff_lt_or_eq.1 hi).elim (h i) fun e => e ▸ hn
   ·exact .inr ⟨n, Nat.lt_succ_self n, h, hn⟩
  ·exact .inr ⟨k, Nat.lt_succ_of_lt h1, h2, h3⟩
theorem wrap_succ {i : Nat} (h : i < 9000000000000000000) : IntKind.i64.wrap ((i : Int) + 1) = ((i + 1 : Nat) : Int) := by
 rw [wrap_i64 (by omega) (by omega)]; rfl
section
variable {α : Type}
theorem list_ext_getD {l m : List α} (d : α) (h : l.length = m.length) (h' : ∀ i, i < l.length → l.getD i d = m.getD i d) : l = m := by
 apply List.ext_getElem h
 intro i h1 h2
 have := h' i h1
 simpa [List.getD_eq_getElem?_getD, List.getElem?_eq_getElem h1, List.getElem?_eq_getElem h2] using this
def tab6 (g : Nat → α) (n : Nat) : List α := (List.range n).map g
end
def lv (l : List Int) : Prop := ∀ i, i < 6 → 0 ≤ l.getD i 0 ∧ l.getD i 0 ≤ 255
instance (l : List Int) : Decidable (lv l) := by unfold lv; infer_instance
def nearP (l p : List Int) : Prop := lv l ∧ lv p ∧ ∀ i, i < 6 → -8 ≤ l.getD i 0 - p.getD i 0 ∧ l.getD i 0 - p.getD i 0 ≤ 7
instance (l p : List Int) : Decidable (nearP l p) := by unfold nearP; infer_instance
end Go.Sq
namespace Go.Sq
open Go.Rx
def mx (a b : Int) : Int := if a < b then b else a
def spF (l : List Int) : Nat → Int
 | 0 => 0
 | b + 1 => mx (spF l b) (l.getD b 0) - 12
def spB (l : List Int) : Nat → Int
 | 0 => 0
 | k + 1 => mx (spB l k) (l.getD (5 - k) 0) - 12
def mF (l : List Int) (b : Nat) : Int := mx 0 (spF l b - 8)
def mB (l : List Int) (b : Nat) : Int := mx (mF l b) (spB l (5 - b) - 8)
end Go.Sq
namespace Go.Sq
open Go.Rx
def edgeL : List Int := [0, 1, 2, 4, 6, 10, 16]
def costP (a : List Int) : Nat → Int
 | 0 => 0
 | i + 1 => costP a i + a.getD i 0 * (edgeL.getD (i + 1) 0 - edgeL.getD i 0)
def al0 (l : List Int) (b : Nat) : Int := if l.getD b 0 ≤ mB l b then 0 else if 7 < (l.getD b 0 - mB l b + 7) / 8 then 7 else (l.getD b 0 - mB l b + 7) / 8
def first (l : List Int) : List Int := tab6 (al0 l) 6
def am (a : List Int) : Nat → Nat
 | 0 => 0
 | b + 1 => if a.getD b 0 ≥ a.getD (am a b) 0 then b else am a b
def dec (a : List Int) (i : Nat) : List Int := a.set i (a.getD i 0 - 1)
inductive cutR (B : Int) : List Int → List Int → Prop
 | stop {a} : costP a 6 ≤ B → cutR B a a
 | go {a r} : B < costP a 6 → cutR B (dec a (am a 6)) r → cutR B a r
theorem cutR.one {B : Int} {a r s : List Int} (h : cutR B a r) (h' : cutR B a s) : r = s := by
 induction h with
 | stop h => cases h' with
  | stop _ => rfl
  | go h2 _ => omega
 | go h _ ih => cases h' with
  | stop h2 => omega
  | go _ h2 => exact ih h2
end Go.Sq
namespace Go.Sq
open Go.Rx
end Go.Sq
namespace Go.Sq
open Go.Rx
abbrev FrT := Int × List Int × List Int
def sized (f : FrT) : Prop := f.2.1.length = 6 ∧ f.2.2.length = 16
end Go.Sq
namespace Go.Sq
open Go.Rx
def pre (w : List Int) : Nat → Int
 | 0 => 0
 | i + 1 => pre w i + w.getD i 0
end Go.Sq
