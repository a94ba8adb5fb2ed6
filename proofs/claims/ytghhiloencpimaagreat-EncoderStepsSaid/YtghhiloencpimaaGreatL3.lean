import Derived.Test.YtghhiloencpimaaGreatL2
import Derived.KernelRfl
set_option linter.unusedSimpArgs false
set_option linter.unusedVariables false
set_option linter.unusedSectionVars false
namespace Go.Sq
open Go.Rx
theorem j4A {X R : Type} {f : X → Option (X ⊕ R)} {x : X} {r : R} : ∀ n, m7A f n x = some r → a1A f x = some r
 | 0, h => by cases h
 | n + 1, h => by
  simp only [m7A] at h
  cases hf : f x with
  | none => rw [hf] at h; cases h
  | some z =>
   rw [hf] at h
   cases z with
   | inl y => rw [z2A hf]; exact j4A n h
   | inr s => rw [w3A hf]; exact h
theorem u3B {X R : Type} {f : X → Option (X ⊕ R)} (st : Nat → X) : ∀ n, (∀ i, i < n → f (st i) = some (.inl (st (i + 1)))) → a1A f (st 0) = a1A f (st n)
 | 0, _ => rfl
 | n + 1, h => (u3B st n fun i hi => h i (by omega)).trans (z2A (h n (by omega)))
theorem b7A {X R : Type} {f : X → Option (X ⊕ R)} (st : Nat → X) (n : Nat) {r : R} (h : ∀ i, i < n → f (st i) = some (.inl (st (i + 1)))) (h' : f (st n) = some (.inr r)) : a1A f (st 0) = some r :=
 (u3B st n h).trans (w3A h')
theorem r4E {X R : Type} {f : Nat → X → Option (X ⊕ R)} (st : Nat → X) : ∀ n, (∀ i, i < n → f i (st (i + 1)) = some (.inl (st i))) → w1A f n (st n) = some (.inl (st 0))
 | 0, _ => rfl
 | n + 1, h => by
  simp only [w1A]
  rw [h n (by omega)]
  exact r4E st n fun i hi => h i (by omega)
theorem k0B (p : Nat → Prop) [DecidablePred p] : ∀ n, (∀ i, i < n → p i) ∨ ∃ k, k < n ∧ (∀ i, i < k → p i) ∧ ¬ p k
 | 0 => .inl fun i hi => absurd hi (Nat.not_lt_zero i)
 | n + 1 => by
  rcases k0B p n with h | ⟨k, h1, h2, h3⟩
  ·by_cases hn : p n
   ·exact .inl fun i hi => (Nat.lt_succ_iff_lt_or_eq.1 hi).elim (h i) fun e => e ▸ hn
   ·exact .inr ⟨n, Nat.lt_succ_self n, h, hn⟩
  ·exact .inr ⟨k, Nat.lt_succ_of_lt h1, h2, h3⟩
theorem d2A {i : Nat} (h : i < 9000000000000000000) : IntKind.i64.wrap ((i : Int) + 1) = ((i + 1 : Nat) : Int) := by
 rw [a3A (by omega) (by omega)]; rfl
section
variable {α : Type}
def b4A (g : Nat → α) : Nat → List α → List α
 | 0, l => l
 | n + 1, l => (b4A g n l).set n (g n)
theorem q4A (g : Nat → α) : ∀ n l, (b4A g n l).length = l.length
 | 0, _ => rfl
 | n + 1, l => by simp only [b4A, List.length_set, q4A g n l]
theorem p2A (l : List α) (i k : Nat) (v d : α) (hi : i < l.length) : (l.set i v).getD k d = if k = i then v else l.getD k d := by
 simp only [List.getD_eq_getElem?_getD]
 by_cases h : k = i
 ·subst h; rw [if_pos rfl, List.getElem?_set_self hi]; rfl
 ·rw [if_neg h, List.getElem?_set_ne (Ne.symm h)]
theorem u2A (g : Nat → α) (d : α) : ∀ n (l : List α) i, n ≤ l.length → (b4A g n l).getD i d = if i < n then g i else l.getD i d
 | 0, l, i, _ => rfl
 | n + 1, l, i, h => by
  simp only [b4A]
  rw [p2A _ _ _ _ _ (by rw [q4A]; omega), u2A g d n l i (by omega)]
  by_cases h1 : i = n
  ·subst h1; rw [if_pos rfl, if_pos (by omega)]
  ·rw [if_neg h1]
   by_cases h2 : i < n
   ·rw [if_pos h2, if_pos (by omega)]
   ·rw [if_neg h2, if_neg (by omega)]
theorem p3A {l m : List α} (d : α) (h : l.length = m.length) (h' : ∀ i, i < l.length → l.getD i d = m.getD i d) : l = m := by
 apply List.ext_getElem h
 intro i h1 h2
 have := h' i h1
 simpa [List.getD_eq_getElem?_getD, List.getElem?_eq_getElem h1, List.getElem?_eq_getElem h2] using this
def a5A (g : Nat → α) (n : Nat) : List α := (List.range n).map g
theorem g6A (g : Nat → α) (n : Nat) : (a5A g n).length = n := by simp [a5A]
theorem e0A (g : Nat → α) (n i : Nat) (d : α) (h : i < n) : (a5A g n).getD i d = g i := by
 simp [a5A, List.getD_eq_getElem?_getD, List.getElem?_map, List.getElem?_range h]
theorem e5G (g : Nat → α) (l : List α) : b4A g l.length l = a5A g l.length := by
 cases l with
 | nil => rfl
 | cons d l0 =>
  refine p3A d (by rw [q4A, g6A]) fun i hi => ?_
  rw [q4A] at hi
  rw [u2A g d _ _ _ (Nat.le_refl _), if_pos hi, e0A _ _ _ _ hi]
theorem l4A {g : Nat → α} {l : List α} {n : Nat} (h : l.length = n) : b4A g n l = a5A g n := by subst h; exact e5G g l
end
theorem k3A {α : Type} {g : Nat → α} {i : Nat} {l : List α} : b4A g (i + 1) l = (b4A g i l).set i (g i) := rfl
def lv (l : List Int) : Prop := ∀ i, i < 6 → 0 ≤ l.getD i 0 ∧ l.getD i 0 ≤ 255
instance (l : List Int) : Decidable (lv l) := by unfold lv; infer_instance
noncomputable def ckL (l : List Int) : Int := if lv l then 0 else 1
def u4B (v : Int) : Int := if 0 < (if 255 < v then 255 else v) then (if 255 < v then 255 else v) else 0
theorem r5E (v : Int) : u4B v = v ↔ 0 ≤ v ∧ v ≤ 255 := by unfold u4B; split <;> split <;> omega
theorem o1B {l : List Int} (hl : l.length = 6) : a9B l = some (ckL l) := by
 have h := b7A (f := n3C) (fun i => (l, (i : Int), l, b4A (fun i => u4B (l.getD i 0)) i l, ())) 6 (r := (l, b4A (fun i => u4B (l.getD i 0)) 6 l, ())) (fun i hi => by
  simp (disch := omega) only [n3C, dT, wT, Int.toNat_natCast, d2A, k3A, u4B]) (by
  simp (disch := omega) only [n3C, dF])
 unfold a9B
 rw [show a1A n3C (l, 0, l, l, ()) = _ from h]
 simp only [Option.bind_some]
 have e : (b4A (fun i => u4B (l.getD i 0)) 6 l == l) = decide (lv l) := by
  rw [Bool.eq_iff_iff]
  simp only [beq_iff_eq, decide_eq_true_eq]
  constructor
  ·intro h i hi
   have : (b4A (fun i => u4B (l.getD i 0)) 6 l).getD i 0 = l.getD i 0 := by rw [h]
   rw [u2A _ _ _ _ _ (by omega), if_pos hi] at this
   exact (r5E _).1 this
  ·intro h
   refine p3A 0 (q4A _ _ _) fun i hi => ?_
   rw [q4A, hl] at hi
   rw [u2A _ _ _ _ _ (by omega), if_pos hi]
   exact (r5E _).2 (h i hi)
 rw [e]; unfold ckL
 by_cases h : lv l <;> simp [h]
theorem k1B {l : List Int} (hl : l.length = 6) : y3A l = some (ckL l) := by
 unfold y3A
 have step : ∀ i, i < 6 → 0 ≤ l.getD i 0 ∧ l.getD i 0 ≤ 255 → m8B (l, (i : Int), ()) = some (.inl (l, ((i + 1 : Nat) : Int), ())) := fun i hi h => by
  simp (disch := omega) only [m8B, dT, dF, wT, Int.toNat_natCast, Option.bind_some, decide_eq_false, cond_false, d2A]
 rcases k0B (fun i => 0 ≤ l.getD i 0 ∧ l.getD i 0 ≤ 255) 6 with h | ⟨k, hk, h, h'⟩
 ·rw [show a1A m8B (l, 0, ()) = some (.inl ()) from b7A (fun i => (l, (i : Int), ())) 6 (fun i hi => step i hi (h i hi)) (by simp (disch := omega) only [m8B, dF])]
  simp only [Option.bind_some]
  unfold ckL; rw [if_pos (show lv l from h)]
 ·rw [show a1A m8B (l, 0, ()) = some (.inr (1, ())) from b7A (fun i => (l, (i : Int), ())) k (fun i hi => step i (by omega) (h i hi)) (by
   by_cases h0 : l.getD k 0 < 0
   ·simp (disch := omega) only [m8B, dT, wT, Int.toNat_natCast, Option.bind_some, cond_true]
   ·have : decide (l.getD k 0 > 255) = true := decide_eq_true (by omega)
    simp (disch := omega) only [m8B, dT, dF, wT, Int.toNat_natCast, Option.bind_some, this, cond_true])]
  simp only [Option.bind_some]
  unfold ckL; rw [if_neg fun hl => h' (hl k hk)]
theorem p4A {l : List Int} (h : lv l) : ckL l = 0 := if_pos h
theorem w4A {l : List Int} (h : ¬ lv l) : ckL l = 1 := if_neg h
def l7A (l p : List Int) : Prop := lv l ∧ lv p ∧ ∀ i, i < 6 → -8 ≤ l.getD i 0 - p.getD i 0 ∧ l.getD i 0 - p.getD i 0 ≤ 7
instance (l p : List Int) : Decidable (l7A l p) := by unfold l7A; infer_instance
theorem r6E {l p : List Int} (hl : l.length = 6) (hp : p.length = 6) : r1B l p = some (decide (l7A l p)) := by
 have c1 := o1B hl
 have c2 := o1B hp
 by_cases h1 : lv l
 ·by_cases h2 : lv p
  ·rw [p4A h1] at c1; rw [p4A h2] at c2
   have step : ∀ i, i < 6 → -8 ≤ l.getD i 0 - p.getD i 0 ∧ l.getD i 0 - p.getD i 0 ≤ 7 → m5B ((i : Int), l, p, ()) = some (.inl (((i + 1 : Nat) : Int), l, p, ())) := fun i hi h => by
    have a1 := h1 i hi; have a2 := h2 i hi
    have : decide (l.getD i 0 - p.getD i 0 > 7) = false := decide_eq_false (by omega)
    simp (disch := omega) only [m5B, dT, dF, wT, Int.toNat_natCast, Option.bind_some, a3A, this, cond_false]
    rfl
   simp (disch := omega) only [r1B, c1, c2, Option.bind_some, nF, bne_self_eq_false, cond_false]
   rcases k0B (fun i => -8 ≤ l.getD i 0 - p.getD i 0 ∧ l.getD i 0 - p.getD i 0 ≤ 7) 6 with h | ⟨k, hk, h, h'⟩
   ·rw [show a1A m5B (0, l, p, ()) = some (.inl ()) from b7A (fun i => ((i : Int), l, p, ())) 6 (fun i hi => step i hi (h i hi)) (by simp (disch := omega) only [m5B, dF])]
    simp only [Option.bind_some]
    rw [decide_eq_true (show l7A l p from ⟨h1, h2, h⟩)]
   ·rw [show a1A m5B (0, l, p, ()) = some (.inr (false, ())) from b7A (fun i => ((i : Int), l, p, ())) k (fun i hi => step i (by omega) (h i hi)) (by
     have a1 := h1 k hk; have a2 := h2 k hk
     by_cases h0 : l.getD k 0 - p.getD k 0 < -8
     ·simp (disch := omega) only [m5B, dT, wT, Int.toNat_natCast, Option.bind_some, a3A, cond_true]
     ·have : decide (l.getD k 0 - p.getD k 0 > 7) = true := decide_eq_true (by omega)
      simp (disch := omega) only [m5B, dT, dF, wT, Int.toNat_natCast, Option.bind_some, a3A, this, cond_true])]
    simp only [Option.bind_some]
    rw [decide_eq_false (show ¬ l7A l p from fun hn => h' (hn.2.2 k hk))]
  ·rw [p4A h1] at c1; rw [w4A h2] at c2
   rw [decide_eq_false (show ¬ l7A l p from fun hn => h2 hn.2.1)]
   simp (disch := omega) only [r1B, c1, c2, Option.bind_some, nF]
   rfl
 ·rw [w4A h1] at c1
  rw [decide_eq_false (show ¬ l7A l p from fun hn => h1 hn.1)]
  simp (disch := omega) only [r1B, c1, Option.bind_some, nT]
  rfl
theorem r7E {l p : List Int} (hl : l.length = 6) (hp : p.length = 6) : r8B l p = some (decide (l7A l p)) := by
 have c1 := k1B hl
 have c2 := k1B hp
 by_cases h1 : lv l
 ·by_cases h2 : lv p
  ·rw [p4A h1] at c1; rw [p4A h2] at c2
   have step : ∀ i, i < 6 → -8 ≤ l.getD i 0 - p.getD i 0 ∧ l.getD i 0 - p.getD i 0 ≤ 7 → m9B ((i : Int), l, p, ()) = some (.inl (((i + 1 : Nat) : Int), l, p, ())) := fun i hi h => by
    have a1 := h1 i hi; have a2 := h2 i hi
    have : decide (l.getD i 0 > p.getD i 0 + 7) = false := decide_eq_false (by omega)
    simp (disch := omega) only [m9B, dT, dF, wT, Int.toNat_natCast, Option.bind_some, a3A, this, cond_false]
    rfl
   simp (disch := omega) only [r8B, c1, c2, Option.bind_some, nF, bne_self_eq_false, cond_false]
   rcases k0B (fun i => -8 ≤ l.getD i 0 - p.getD i 0 ∧ l.getD i 0 - p.getD i 0 ≤ 7) 6 with h | ⟨k, hk, h, h'⟩
   ·rw [show a1A m9B (0, l, p, ()) = some (.inl ()) from b7A (fun i => ((i : Int), l, p, ())) 6 (fun i hi => step i hi (h i hi)) (by simp (disch := omega) only [m9B, dF])]
    simp only [Option.bind_some]
    rw [decide_eq_true (show l7A l p from ⟨h1, h2, h⟩)]
   ·rw [show a1A m9B (0, l, p, ()) = some (.inr (false, ())) from b7A (fun i => ((i : Int), l, p, ())) k (fun i hi => step i (by omega) (h i hi)) (by
     have a1 := h1 k hk; have a2 := h2 k hk
     by_cases h0 : l.getD k 0 < p.getD k 0 - 8
     ·simp (disch := omega) only [m9B, dT, wT, Int.toNat_natCast, Option.bind_some, a3A, cond_true]
     ·have : decide (l.getD k 0 > p.getD k 0 + 7) = true := decide_eq_true (by omega)
      simp (disch := omega) only [m9B, dT, dF, wT, Int.toNat_natCast, Option.bind_some, a3A, this, cond_true])]
    simp only [Option.bind_some]
    rw [decide_eq_false (show ¬ l7A l p from fun hn => h' (hn.2.2 k hk))]
  ·rw [p4A h1] at c1; rw [w4A h2] at c2
   rw [decide_eq_false (show ¬ l7A l p from fun hn => h2 hn.2.1)]
   simp (disch := omega) only [r8B, c1, c2, Option.bind_some, nF]
   rfl
 ·rw [w4A h1] at c1
  rw [decide_eq_false (show ¬ l7A l p from fun hn => h1 hn.1)]
  simp (disch := omega) only [r8B, c1, Option.bind_some, nT]
  rfl
end Go.Sq
namespace Go.Sq
open Go.Rx
def mx (a b : Int) : Int := if a < b then b else a
theorem d4D (a b : Int) : (if a < b then b else a) = mx a b := rfl
theorem e8B (a b : Int) : a ≤ mx a b ∧ b ≤ mx a b ∧ (mx a b = a ∨ mx a b = b) := by unfold mx; split <;> omega
def spF (l : List Int) : Nat → Int
 | 0 => 0
 | b + 1 => mx (spF l b) (l.getD b 0) - 12
def spB (l : List Int) : Nat → Int
 | 0 => 0
 | k + 1 => mx (spB l k) (l.getD (5 - k) 0) - 12
def mF (l : List Int) (b : Nat) : Int := mx 0 (spF l b - 8)
def mB (l : List Int) (b : Nat) : Int := mx (mF l b) (spB l (5 - b) - 8)
def u5B (l : List Int) : List Int := a5A (mB l) 6
theorem t3D {l : List Int} (h : lv l) : ∀ b : Nat, b ≤ 6 → -12 * (b : Int) ≤ spF l b ∧ spF l b ≤ 255
 | 0, _ => by simp [spF]
 | b + 1, hb => by
  have := t3D h b (by omega)
  have h2 := h b (by omega)
  have h3 := e8B (spF l b) (l.getD b 0)
  simp only [spF]
  omega
theorem t4D {l : List Int} (h : lv l) : ∀ b : Nat, b ≤ 6 → -12 * (b : Int) ≤ spB l b ∧ spB l b ≤ 255
 | 0, _ => by simp [spB]
 | b + 1, hb => by
  have := t4D h b (by omega)
  have h2 := h (5 - b) (by omega)
  have h3 := e8B (spB l b) (l.getD (5 - b) 0)
  simp only [spB]
  omega
theorem t5D {l : List Int} (h : lv l) {b : Nat} (hb : b < 6) : 0 ≤ mB l b ∧ mB l b ≤ 255 := by
 have h1 := t3D h b (by omega)
 have h2 := t4D h (5 - b) (by omega)
 unfold mB mF
 have h3 := e8B 0 (spF l b - 8)
 have h4 := e8B (mx 0 (spF l b - 8)) (spB l (5 - b) - 8)
 omega
theorem n3A (n i : Nat) : (List.replicate n (0 : Int)).getD i 0 = 0 := by
 simp only [List.getD_eq_getElem?_getD, List.getElem?_replicate]; split <;> rfl
theorem r8E {l : List Int} (hl : l.length = 6) : i6C l = some (if lv l then (u5B l, 0) else (List.replicate 6 0, 1)) := by
 have c1 := o1B hl
 by_cases h : lv l
 ·rw [p4A h] at c1
  rw [if_pos h]
  have a1 := b7A (f := n4C) (fun b => (0, (b : Int), l, b4A (mF l) b (List.replicate 6 0), spF l b, ())) 6 (r := (0, l, b4A (mF l) 6 (List.replicate 6 0), spF l 6, ())) (fun i hi => by
   have h1 := t3D h i (by omega)
   have h2 := h i hi
   have h3 := e8B (spF l i) (l.getD i 0)
   have e : (b4A (mF l) i (List.replicate 6 0)).getD i 0 = 0 := by
    rw [u2A _ _ _ _ _ (by simp; omega), if_neg (by omega), n3A]
   simp (disch := omega) only [n4C, dT, wT, Int.toNat_natCast, d2A, d4D, e, a3A]
   rfl) (by simp (disch := omega) only [n4C, dF])
  have e6 : b4A (mF l) 6 (List.replicate 6 0) = a5A (mF l) 6 := l4A (by simp)
  rw [e6] at a1
  have a2 := r4E (f := c1D) (fun b => (l, a5A (fun j => if j < b then mF l j else mB l j) 6, spB l (6 - b), ())) 6 (fun i hi => by
   have h1 := t4D h (5 - i) (by omega)
   have h2 := h i hi
   have h3 := e8B (spB l (5 - i)) (l.getD i 0)
   have e1 : 6 - (i + 1) = 5 - i := by omega
   have e2 : 6 - i = (5 - i) + 1 := by omega
   have e3 : 5 - (5 - i) = i := by omega
   have e : (a5A (fun j => if j < i + 1 then mF l j else mB l j) 6).getD i 0 = mF l i := by
    rw [e0A _ _ _ _ hi, if_pos (by omega)]
   have es : (a5A (fun j => if j < i + 1 then mF l j else mB l j) 6).set i (mB l i) = a5A (fun j => if j < i then mF l j else mB l j) 6 := by
    refine p3A 0 (by rw [List.length_set, g6A, g6A]) fun j hj => ?_
    rw [List.length_set, g6A] at hj
    rw [p2A _ _ _ _ _ (by rw [g6A]; exact hi), e0A _ _ _ _ hj, e0A _ _ _ _ hj]
    by_cases h5 : j = i
    ·subst h5; rw [if_pos rfl, if_neg (by omega)]
    ·rw [if_neg h5]
     by_cases h6 : j < i
     ·rw [if_pos h6, if_pos (by omega)]
     ·rw [if_neg h6, if_neg (by omega)]
   simp (disch := omega) only [c1D, wT, Int.toNat_natCast, d4D, e1, e, a3A]
   rw [e2]
   simp only [spB, e3]
   rw [show mx (mF l i) (spB l (5 - i) - 8) = mB l i from rfl, es])
  have e0 : a5A (fun j => if j < 6 then mF l j else mB l j) 6 = a5A (mF l) 6 := by
   refine p3A 0 (by rw [g6A, g6A]) fun j hj => ?_
   rw [g6A] at hj
   rw [e0A _ _ _ _ hj, e0A _ _ _ _ hj, if_pos hj]
  simp only [e0] at a2
  simp (disch := omega) only [i6C, c1, Option.bind_some, nF]
  rw [show a1A n4C (0, 0, l, List.replicate 6 0, 0, ()) = _ from a1]
  simp only [Option.bind_some]
  rw [show w1A c1D 6 (l, a5A (mF l) 6, 0, ()) = _ from a2]
  rfl
 ·rw [w4A h] at c1
  rw [if_neg h]
  simp (disch := omega) only [i6C, c1, Option.bind_some, nT]
def t5A (b c : Nat) : Int := mx ((b : Int) - c) ((c : Int) - b)
def rmS (l : List Int) (b : Nat) : Nat → Int
 | 0 => 0
 | c + 1 => if t5A b c > 0 then mx (rmS l b c) (l.getD c 0 - 12 * t5A b c - 8) else rmS l b c
theorem r9E {b c : Nat} (hb : b < 6) (hc : c < 6) : 0 ≤ t5A b c ∧ t5A b c ≤ 5 := by
 have := e8B ((b : Int) - c) ((c : Int) - b)
 unfold t5A; omega
theorem s0E {l : List Int} (h : lv l) {b : Nat} (hb : b < 6) : ∀ c, c ≤ 6 → 0 ≤ rmS l b c ∧ rmS l b c ≤ 255
 | 0, _ => by simp [rmS]
 | c + 1, hc => by
  have := s0E h hb c (by omega)
  have h2 := h c (by omega)
  have h4 := r9E hb (show c < 6 by omega)
  have h3 := e8B (rmS l b c) (l.getD c 0 - 12 * t5A b c - 8)
  simp only [rmS]; split <;> omega
theorem r9C {a b M : Int} : mx a b ≤ M ↔ a ≤ M ∧ b ≤ M := by unfold mx; split <;> omega
theorem t6D {l : List Int} {b : Nat} (hb : b < 6) {M : Int} : ∀ n, n ≤ 6 → (rmS l b n ≤ M ↔ 0 ≤ M ∧ ∀ c, c < n → c ≠ b → l.getD c 0 - 12 * t5A b c - 8 ≤ M)
 | 0, _ => by
  simp only [rmS]
  exact ⟨fun h => ⟨h, fun c hc => absurd hc (Nat.not_lt_zero c)⟩, fun h => h.1⟩
 | n + 1, hn => by
  have ih := t6D (l := l) hb (M := M) n (by omega)
  have ha : t5A b n > 0 ↔ n ≠ b := by
   have := e8B ((b : Int) - n) ((n : Int) - b)
   unfold t5A; omega
  simp only [rmS]
  split
  ·rename_i h
   rw [r9C, ih]
   constructor
   ·rintro ⟨⟨h0, h1⟩, h2⟩
    refine ⟨h0, fun c hc hcb => ?_⟩
    by_cases hcn : c = n
    ·subst hcn; exact h2
    ·exact h1 c (by omega) hcb
   ·rintro ⟨h0, h1⟩
    exact ⟨⟨h0, fun c hc => h1 c (by omega)⟩, h1 n (by omega) (ha.1 h)⟩
  ·rename_i h
   rw [ih]
   constructor
   ·rintro ⟨h0, h1⟩
    refine ⟨h0, fun c hc hcb => ?_⟩
    by_cases hcn : c = n
    ·subst hcn; exact absurd (ha.2 hcb) h
    ·exact h1 c (by omega) hcb
   ·rintro ⟨h0, h1⟩
    exact ⟨h0, fun c hc => h1 c (by omega)⟩
theorem s1E {l : List Int} : ∀ (b : Nat) {M : Int}, spF l b ≤ M ↔ -12 * (b : Int) ≤ M ∧ ∀ c, c < b → l.getD c 0 - 12 * ((b : Int) - c) ≤ M
 | 0, M => by
  simp only [spF]
  exact ⟨fun h => ⟨by omega, fun c hc => absurd hc (Nat.not_lt_zero c)⟩, fun h => by have := h.1; omega⟩
 | b + 1, M => by
  simp only [spF]
  rw [show mx (spF l b) (l.getD b 0) - 12 ≤ M ↔ mx (spF l b) (l.getD b 0) ≤ M + 12 by omega, r9C, s1E b]
  constructor
  ·rintro ⟨⟨h0, h1⟩, h2⟩
   refine ⟨by omega, fun c hc => ?_⟩
   by_cases hcn : c = b
   ·subst hcn; omega
   ·have := h1 c (by omega); omega
  ·rintro ⟨h0, h1⟩
   refine ⟨⟨by omega, fun c hc => ?_⟩, ?_⟩
   ·have := h1 c (by omega); omega
   ·have := h1 b (by omega); omega
theorem s2E {l : List Int} : ∀ (k : Nat) {M : Int}, k ≤ 6 → (spB l k ≤ M ↔ -12 * (k : Int) ≤ M ∧ ∀ c, c < 6 → 5 < c + k → l.getD c 0 - 12 * ((c : Int) + k - 5) ≤ M)
 | 0, M, _ => by
  simp only [spB]
  exact ⟨fun h => ⟨by omega, fun c hc h2 => absurd h2 (by omega)⟩, fun h => by have := h.1; omega⟩
 | k + 1, M, hk => by
  simp only [spB]
  rw [show mx (spB l k) (l.getD (5 - k) 0) - 12 ≤ M ↔ mx (spB l k) (l.getD (5 - k) 0) ≤ M + 12 by omega, r9C, s2E k (by omega)]
  constructor
  ·rintro ⟨⟨h0, h1⟩, h2⟩
   refine ⟨by omega, fun c hc h3 => ?_⟩
   by_cases hcn : c = 5 - k
   ·subst hcn; omega
   ·have := h1 c (by omega) (by omega); omega
  ·rintro ⟨h0, h1⟩
   refine ⟨⟨by omega, fun c hc h3 => ?_⟩, ?_⟩
   ·have := h1 c (by omega) (by omega); omega
   ·have := h1 (5 - k) (by omega) (by omega); omega
theorem s3E {l : List Int} {b : Nat} (hb : b < 6) {M : Int} : mB l b ≤ M ↔ 0 ≤ M ∧ ∀ c, c < 6 → c ≠ b → l.getD c 0 - 12 * t5A b c - 8 ≤ M := by
 unfold mB mF
 rw [r9C, r9C, show spF l b - 8 ≤ M ↔ spF l b ≤ M + 8 by omega, show spB l (5 - b) - 8 ≤ M ↔ spB l (5 - b) ≤ M + 8 by omega, s1E, s2E _ (by omega)]
 have ha : ∀ c : Nat, (c < b → t5A b c = (b : Int) - c) ∧ (b < c → t5A b c = (c : Int) - b) := fun c => by
  have := e8B ((b : Int) - c) ((c : Int) - b)
  unfold t5A; omega
 constructor
 ·rintro ⟨⟨h0, h1, h2⟩, h3, h4⟩
  refine ⟨h0, fun c hc hcb => ?_⟩
  rcases Nat.lt_or_gt_of_ne hcb with h | h
  ·have := h2 c h; rw [(ha c).1 h]; omega
  ·have := h4 c hc (by omega); rw [(ha c).2 h]; omega
 ·rintro ⟨h0, h1⟩
  refine ⟨⟨h0, by omega, fun c hc => ?_⟩, by omega, fun c hc h3 => ?_⟩
  ·have := h1 c (by omega) (by omega); rw [(ha c).1 hc] at this; omega
  ·have := h1 c hc (by omega); rw [(ha c).2 (by omega)] at this; omega
theorem e6G {l : List Int} {b : Nat} (hb : b < 6) : rmS l b 6 = mB l b :=
 Int.le_antisymm ((t6D hb 6 (by omega)).2 ((s3E hb).1 (Int.le_refl _))) ((s3E hb).2 ((t6D hb 6 (by omega)).1 (Int.le_refl _)))
theorem s4E {l : List Int} (hl : l.length = 6) : k6C l = some (if lv l then (u5B l, 0) else (List.replicate 6 0, 1)) := by
 have c1 := k1B hl
 by_cases h : lv l
 ·rw [p4A h] at c1
  rw [if_pos h]
  have inner : ∀ b : Nat, b < 6 → ∀ m0, a1A a9C ((b : Int), (b : Int), l, 0, l, m0, b4A (mB l) b (List.replicate 6 0), ()) = some ((b : Int), l, m0, b4A (mB l) (b + 1) (List.replicate 6 0), ()) := fun b hb m0 => by
   have hlen : (b4A (mB l) b (List.replicate 6 (0 : Int))).length = 6 := by rw [q4A]; simp
   have := b7A (f := a9C) (fun c => ((b : Int), (b : Int), l, (c : Int), l, m0, (b4A (mB l) b (List.replicate 6 0)).set b (rmS l b c), ())) 6 (r := ((b : Int), l, m0, (b4A (mB l) b (List.replicate 6 0)).set b (rmS l b 6), ())) (fun c hc => by
    have h1 := s0E h hb c (by omega)
    have h2 := h c hc
    have h3 := r9E hb hc
    have e : ((b4A (mB l) b (List.replicate 6 0)).set b (rmS l b c)).getD b 0 = rmS l b c := by rw [p2A _ _ _ _ _ (by omega), if_pos rfl]
    have ew : mx ((b : Int) - c) ((c : Int) - b) = t5A b c := rfl
    by_cases ha : t5A b c > 0
    ·simp (disch := omega) only [a9C, dT, wT, Int.toNat_natCast, a3A, d4D, ew, Option.bind_some, e, List.set_set, rmS, if_pos ha]
     rfl
    ·simp (disch := omega) only [a9C, dT, dF, wT, Int.toNat_natCast, a3A, d4D, ew, Option.bind_some, rmS, if_neg ha]
     rfl) (by simp (disch := omega) only [a9C, dF])
   rw [e6G hb] at this
   have e0 : (b4A (mB l) b (List.replicate 6 (0 : Int))).set b (rmS l b 0) = b4A (mB l) b (List.replicate 6 0) := by
    refine p3A 0 (by rw [List.length_set]) fun j hj => ?_
    rw [List.length_set] at hj
    rw [p2A _ _ _ _ _ (by omega)]
    by_cases hjb : j = b
    ·subst hjb; rw [if_pos rfl, u2A _ _ _ _ _ (by simp; omega), if_neg (by omega), n3A]; rfl
    ·rw [if_neg hjb]
   simp only [e0] at this
   exact this
  have a1 := b7A (f := p6C) (fun b => ((b : Int), l, List.replicate 6 0, b4A (mB l) b (List.replicate 6 0), ())) 6 (r := (List.replicate 6 0, b4A (mB l) 6 (List.replicate 6 0), ())) (fun b hb => by
   simp (disch := omega) only [p6C, dT, inner b hb, Option.bind_some, d2A]) (by simp (disch := omega) only [p6C, dF])
  have e6 : b4A (mB l) 6 (List.replicate 6 0) = a5A (mB l) 6 := l4A (by simp)
  rw [e6] at a1
  simp (disch := omega) only [k6C, c1, Option.bind_some, nF]
  rw [show a1A p6C (0, l, List.replicate 6 0, List.replicate 6 0, ()) = _ from a1]
  rfl
 ·rw [w4A h] at c1
  rw [if_neg h]
  simp (disch := omega) only [k6C, c1, Option.bind_some, nT]
end Go.Sq
namespace Go.Sq
open Go.Rx
theorem e7G (i : Nat) : ((i : Int) + 1).toNat = i + 1 := by omega
def c1A : List Int := [0, 1, 2, 4, 6, 10, 16]
def l5A (a : List Int) : Nat → Int
 | 0 => 0
 | i + 1 => l5A a i + a.getD i 0 * (c1A.getD (i + 1) 0 - c1A.getD i 0)
def sh7 (a : List Int) : Prop := a.length = 6 ∧ ∀ i, i < 6 → 0 ≤ a.getD i 0 ∧ a.getD i 0 ≤ 7
theorem t7D {i : Nat} (h : i < 6) : 1 ≤ c1A.getD (i + 1) 0 - c1A.getD i 0 ∧ c1A.getD (i + 1) 0 - c1A.getD i 0 ≤ 6 := by
 match i, h with
 | 0, _ => decide
 | 1, _ => decide
 | 2, _ => decide
 | 3, _ => decide
 | 4, _ => decide
 | 5, _ => decide
theorem t8D {x y a b : Int} (hx : 0 ≤ x) (hx' : x ≤ a) (hy : 0 ≤ y) (hy' : y ≤ b) : 0 ≤ x * y ∧ x * y ≤ a * b :=
 ⟨Int.mul_nonneg hx hy, Int.mul_le_mul hx' hy' hy (Int.le_trans hx hx')⟩
theorem t9D {a : List Int} (h : sh7 a) : ∀ i, i ≤ 6 → 0 ≤ l5A a i ∧ l5A a i ≤ 42 * i
 | 0, _ => by simp [l5A]
 | i + 1, hi => by
  have := t9D h i (by omega)
  have h1 := h.2 i (by omega)
  have h2 := t7D (show i < 6 by omega)
  have h3 := t8D h1.1 h1.2 (show 0 ≤ c1A.getD (i + 1) 0 - c1A.getD i 0 by omega) h2.2
  simp only [l5A]; omega
theorem e8G {a : List Int} (h : sh7 a) : y2C a = some (l5A a 6) := by
 have a1 := b7A (f := n5C) (fun i => (l5A a i, (i : Int), a, c1A, ())) 6 (r := (l5A a 6, ())) (fun i hi => by
  have h0 := t9D h i (by omega)
  have h1 := h.2 i (by omega)
  have h2 := t7D hi
  have h3 := t8D h1.1 h1.2 (show 0 ≤ c1A.getD (i + 1) 0 - c1A.getD i 0 by omega) h2.2
  simp (disch := omega) only [n5C, dT, wT, Int.toNat_natCast, e7G, a3A, l5A]
  rfl) (by simp (disch := omega) only [n5C, dF])
 have e : l6B = some c1A := rfl
 simp only [y2C, e, Option.bind_some]
 rw [show a1A n5C (0, 0, a, c1A, ()) = _ from a1]
 rfl
theorem d5D {i : Nat} (h : i < 7) : i2B (i : Int) = some (c1A.getD i 0) := by
 simp (disch := omega) only [i2B, wT, Int.toNat_natCast]; rfl
theorem u0D {i : Nat} (h : i < 6) : i2B ((i : Int) + 1) = some (c1A.getD (i + 1) 0) := d5D (i := i + 1) (by omega)
theorem e9G {a : List Int} (h : sh7 a) : a1D a = some (l5A a 6) := by
 have a1 := b7A (f := p7C) (fun i => (l5A a i, a, (i : Int), ())) 6 (r := (l5A a 6, ())) (fun i hi => by
  have h0 := t9D h i (by omega)
  have h1 := h.2 i (by omega)
  have h2 := t7D hi
  have h3 := t8D h1.1 h1.2 (show 0 ≤ c1A.getD (i + 1) 0 - c1A.getD i 0 by omega) h2.2
  simp (disch := omega) only [p7C, dT, wT, Int.toNat_natCast, a3A, d5D, u0D hi, Option.bind_some, l5A]
  rfl) (by simp (disch := omega) only [p7C, dF])
 simp only [a1D]
 rw [show a1A p7C (0, a, 0, ()) = _ from a1]
 rfl
def al0 (l : List Int) (b : Nat) : Int := if l.getD b 0 ≤ mB l b then 0 else if 7 < (l.getD b 0 - mB l b + 7) / 8 then 7 else (l.getD b 0 - mB l b + 7) / 8
def first (l : List Int) : List Int := a5A (al0 l) 6
theorem d6D {l : List Int} {b : Nat} (hb : b < 6) : (u5B l).getD b 0 = mB l b := e0A _ _ _ _ hb
theorem s5E {l : List Int} (h : lv l) : sh7 (first l) := by
 refine ⟨g6A _ _, fun i hi => ?_⟩
 unfold first
 rw [e0A _ _ _ _ hi]
 have h1 := t5D h hi
 have h2 := h i hi
 unfold al0
 split
 ·omega
 ·split <;> omega
theorem d7D {x : Int} (h : 0 ≤ x) : x.tdiv 8 = x / 8 := Int.tdiv_eq_ediv_of_nonneg h
theorem f0G {l : List Int} (h : lv l) {B : Int} : a1A z8B (0, 0, l, B, List.replicate 6 0, u5B l, ()) = some (0, B, first l, ()) := by
 have e6 : b4A (al0 l) 6 (List.replicate 6 0) = first l := l4A (by simp)
 rw [← e6]
 exact b7A (f := z8B) (fun i => (0, (i : Int), l, B, b4A (al0 l) i (List.replicate 6 0), u5B l, ())) 6 (fun i hi => by
  have h1 := t5D h hi
  have h2 := h i hi
  have h5 : -(40 : Int) ≤ (l.getD i 0 - mB l i + 8 - 1).tdiv 8 ∧ (l.getD i 0 - mB l i + 8 - 1).tdiv 8 ≤ 40 := by
   rcases Int.le_total 0 (l.getD i 0 - mB l i + 8 - 1) with h6 | h6
   ·rw [d7D h6]; omega
   ·have : (l.getD i 0 - mB l i + 8 - 1).tdiv 8 = -((-(l.getD i 0 - mB l i + 8 - 1)) / 8) := by
     rw [← Int.tdiv_eq_ediv_of_nonneg (by omega), Int.neg_tdiv, Int.neg_neg]
    rw [this]; omega
  by_cases h3 : l.getD i 0 ≤ mB l i
  ·have ev : al0 l i = 0 := if_pos h3
   simp (disch := omega) only [z8B, dT, wT, Int.toNat_natCast, d6D hi, Option.bind_some, d2A, List.set_set, k3A, ev]
  ·have ev : al0 l i = (if 0 < (if 7 < (l.getD i 0 - mB l i + 8 - 1).tdiv 8 then 7 else (l.getD i 0 - mB l i + 8 - 1).tdiv 8) then (if 7 < (l.getD i 0 - mB l i + 8 - 1).tdiv 8 then 7 else (l.getD i 0 - mB l i + 8 - 1).tdiv 8) else 0) := by
    unfold al0
    rw [if_neg h3, d7D (by omega), show l.getD i 0 - mB l i + 8 - 1 = l.getD i 0 - mB l i + 7 by omega]
    split <;> split <;> first | rfl | omega
   simp (disch := omega) only [z8B, dT, dF, wT, Int.toNat_natCast, d6D hi, Option.bind_some, k3A, ev, a3A]
   rfl) (by simp (disch := omega) only [z8B, dF])
theorem f1G {l : List Int} (h : lv l) {B : Int} {z : List Int} : a1A b0C (B, 0, l, z, List.replicate 6 0, u5B l, ()) = some (B, z, first l, ()) := by
 have e6 : b4A (al0 l) 6 (List.replicate 6 0) = first l := l4A (by simp)
 rw [← e6]
 exact b7A (f := b0C) (fun i => (B, (i : Int), l, z, b4A (al0 l) i (List.replicate 6 0), u5B l, ())) 6 (fun i hi => by
  have h1 := t5D h hi
  have h2 := h i hi
  by_cases h3 : l.getD i 0 ≤ mB l i
  ·have ev : al0 l i = 0 := if_pos h3
   have es : (b4A (al0 l) i (List.replicate 6 0)).set i 0 = b4A (al0 l) i (List.replicate 6 0) := by
    refine p3A 0 (by rw [List.length_set]) fun j hj => ?_
    rw [List.length_set, q4A] at hj
    simp at hj
    rw [p2A _ _ _ _ _ (by rw [q4A]; simp; omega)]
    by_cases hji : j = i
    ·subst hji; rw [if_pos rfl, u2A _ _ _ _ _ (by simp; omega), if_neg (by omega), n3A]
    ·rw [if_neg hji]
   have : decide (l.getD i 0 > mB l i) = false := decide_eq_false (by omega)
   simp (disch := omega) only [b0C, dT, wT, Int.toNat_natCast, d6D hi, Option.bind_some, d2A, k3A, ev, es, this, cond_false]
  ·have ev : al0 l i = (if 7 < (l.getD i 0 - mB l i + 7).tdiv 8 then 7 else (l.getD i 0 - mB l i + 7).tdiv 8) := by
    unfold al0
    rw [if_neg h3, d7D (by omega)]
   have h5 : 0 ≤ (l.getD i 0 - mB l i + 7).tdiv 8 ∧ (l.getD i 0 - mB l i + 7).tdiv 8 ≤ 40 := by rw [d7D (by omega)]; omega
   have : decide (l.getD i 0 > mB l i) = true := decide_eq_true (by omega)
   simp (disch := omega) only [b0C, dT, dF, wT, Int.toNat_natCast, d6D hi, Option.bind_some, k3A, ev, a3A, this, cond_true]
   rfl) (by simp (disch := omega) only [b0C, dF])
def am (a : List Int) : Nat → Nat
 | 0 => 0
 | b + 1 => if a.getD b 0 ≥ a.getD (am a b) 0 then b else am a b
theorem u1D (a : List Int) : ∀ n, am a n < n + 1
 | 0 => by simp [am]
 | n + 1 => by simp only [am]; have := u1D a n; split <;> omega
theorem u2D (a : List Int) {n : Nat} (hn : n ≤ 6) : am a n < 6 := by
 cases n with
 | zero => simp [am]
 | succ n => simp only [am]; have := u1D a n; split <;> omega
theorem u3D (a : List Int) : ∀ n c, c < n → a.getD c 0 ≤ a.getD (am a n) 0
 | n + 1, c, h => by
  simp only [am]
  have ih := u3D a n c
  split
  ·by_cases hc : c = n
   ·subst hc; exact Int.le_refl _
   ·have := ih (by omega); omega
  ·by_cases hc : c = n
   ·subst hc; omega
   ·exact ih (by omega)
theorem s6E (a : List Int) : ∀ n c, am a n < c → c < n → a.getD c 0 < a.getD (am a n) 0
 | n + 1, c, h, h' => by
  simp only [am] at h ⊢
  have ih := s6E a n c
  split
  ·rename_i h1; rw [if_pos h1] at h; omega
  ·rename_i h1
   rw [if_neg h1] at h
   by_cases hc : c = n
   ·subst hc; omega
   ·exact ih h (by omega)
theorem f2G {a : List Int} {i : Nat} {n : Nat} (hi : i < n) (h1 : ∀ c, c < n → a.getD c 0 ≤ a.getD i 0) (h2 : ∀ c, i < c → c < n → a.getD c 0 < a.getD i 0) : am a n = i := by
 have hl : am a n < n := by
  cases n with
  | zero => omega
  | succ n => simp only [am]; have := u1D a n; split <;> omega
 rcases Nat.lt_trichotomy (am a n) i with h | h | h
 ·have := s6E a n i h hi; have := h1 _ hl; omega
 ·exact h
 ·have := h2 _ h hl; have := u3D a n i hi; omega
def dec (a : List Int) (i : Nat) : List Int := a.set i (a.getD i 0 - 1)
inductive n4A (B : Int) : List Int → List Int → Prop
 | stop {a} : l5A a 6 ≤ B → n4A B a a
 | go {a r} : B < l5A a 6 → n4A B (dec a (am a 6)) r → n4A B a r
theorem n4A.one {B : Int} {a r s : List Int} (h : n4A B a r) (h' : n4A B a s) : r = s := by
 induction h with
 | stop h => cases h' with
  | stop _ => rfl
  | go h2 _ => omega
 | go h _ ih => cases h' with
  | stop h2 => omega
  | go _ h2 => exact ih h2
theorem u4D {a : List Int} (h : sh7 a) {i : Nat} (hi : i < 6) (hp : 1 ≤ a.getD i 0) : sh7 (dec a i) := by
 refine ⟨by unfold dec; rw [List.length_set]; exact h.1, fun j hj => ?_⟩
 unfold dec
 rw [p2A _ _ _ _ _ (by rw [h.1]; exact hi)]
 have h1 := h.2 i hi; have h2 := h.2 j hj
 split <;> omega
theorem s7E {a : List Int} (h : sh7 a) (hp : 0 < l5A a 6) : 1 ≤ a.getD (am a 6) 0 := by
 by_cases hz : 1 ≤ a.getD (am a 6) 0
 ·exact hz
 ·exfalso
  have all0 : ∀ i, i < 6 → a.getD i 0 = 0 := fun i hi => by
   have := u3D a 6 i hi; have := h.2 i hi; omega
  have : ∀ i, i ≤ 6 → l5A a i = 0 := fun i => by
   induction i with
   | zero => intro _; rfl
   | succ i ih => intro hi; simp only [l5A]; rw [ih (by omega), all0 i (by omega)]; simp
  rw [this 6 (by omega)] at hp; omega
def o2B (a : List Int) : Nat → Int
 | 0 => 0
 | i + 1 => o2B a i + a.getD i 0
theorem s8E {a : List Int} (h : sh7 a) : ∀ i, i ≤ 6 → 0 ≤ o2B a i
 | 0, _ => Int.le_refl _
 | i + 1, hi => by have := s8E h i (by omega); have := h.2 i (by omega); simp only [o2B]; omega
theorem s9E {a : List Int} (h : sh7 a) {i : Nat} (hi : i < 6) : ∀ n, n ≤ 6 → o2B (dec a i) n = o2B a n - if i < n then 1 else 0
 | 0, _ => by simp [o2B]
 | n + 1, hn => by
  have ih := s9E h hi n (by omega)
  simp only [o2B]
  rw [ih]
  unfold dec
  rw [p2A _ _ _ _ _ (by rw [h.1]; exact hi)]
  by_cases h1 : n = i
  ·subst h1; rw [if_pos rfl, if_neg (by omega), if_pos (by omega)]; omega
  ·rw [if_neg h1]
   by_cases h2 : i < n
   ·rw [if_pos h2, if_pos (by omega)]; omega
   ·rw [if_neg h2, if_neg (by omega)]; omega
theorem f3G {B : Int} {a z : List Int} (h : sh7 a) : a1A b1C (B, 0, a, 0, z, a, ()) = some (B, (am a 6 : Int), z, a, ()) :=
 b7A (f := b1C) (fun i => (B, (am a i : Int), a, (i : Int), z, a, ())) 6 (fun i hi => by
  have h1 := u2D a (show i ≤ 6 by omega)
  by_cases h2 : a.getD i 0 ≥ a.getD (am a i) 0
  ·simp (disch := omega) only [b1C, dT, wT, Int.toNat_natCast, Option.bind_some, d2A, am, if_pos h2]
  ·simp (disch := omega) only [b1C, dT, dF, wT, Int.toNat_natCast, Option.bind_some, d2A, am, if_neg h2]) (by simp (disch := omega) only [b1C, dF])
theorem f4G {B : Int} (hB : 0 ≤ B) {a z : List Int} (h : sh7 a) : ∃ r, a1A p8C (B, z, a, ()) = some (z, r, ()) ∧ n4A B a r ∧ sh7 r := by
 obtain ⟨y, h1, h2⟩ := l0A (f := p8C) (fun p => (o2B p.2.2.1 6).toNat) (fun p => ∃ b, p = (B, z, b, ()) ∧ sh7 b ∧ ∀ r, n4A B b r → n4A B a r) (fun q => ∃ r, q = (z, r, ()) ∧ n4A B a r ∧ sh7 r) (fun p ⟨b, hp, hb, hc⟩ => by
  subst hp
  have c := e9G hb
  by_cases hk : l5A b 6 > B
  ·left
   have hpos := s7E hb (by omega)
   have hlt := u2D b (Nat.le_refl 6)
   have hr := hb.2 _ hlt
   refine ⟨(B, z, dec b (am b 6), ()), ?_, ⟨_, rfl, u4D hb hlt hpos, fun r h3 => hc r (.go hk h3)⟩, ?_⟩
   ·simp (disch := omega) only [p8C, c, Option.bind_some, dT, f3G hb, wT, Int.toNat_natCast, a3A]
    rfl
   ·have := s9E hb hlt 6 (by omega)
    rw [if_pos hlt] at this
    have h4 := s8E (u4D hb hlt hpos) 6 (by omega)
    simp only
    omega
  ·right
   refine ⟨(z, b, ()), ?_, b, rfl, hc b (.stop (by omega)), hb⟩
   simp (disch := omega) only [p8C, c, Option.bind_some, dF]) (B, z, a, ()) ⟨a, rfl, h, fun r h => h⟩
 obtain ⟨r, rfl, h3, h4⟩ := h2
 exact ⟨r, h1, h3, h4⟩
theorem d8D {B : Int} (hB : 0 ≤ B) {top : Int} (ht : 1 ≤ top) (ht7 : top ≤ 7) {a : List Int} : ∀ (n : Nat) {b : List Int}, n ≤ 6 → sh7 b → (∀ c, c < 6 → b.getD c 0 ≤ top) → (∀ c, n ≤ c → c < 6 → b.getD c 0 ≤ top - 1) → (∀ r, n4A B b r → n4A B a r) →
    (∃ b', w1A m6B n (B, b, top, ()) = some (.inl (B, b', top, ())) ∧ sh7 b' ∧ (∀ c, c < 6 → b'.getD c 0 ≤ top - 1) ∧ ∀ r, n4A B b' r → n4A B a r) ∨
    ∃ r, w1A m6B n (B, b, top, ()) = some (.inr (B, r, top, ())) ∧ n4A B a r ∧ sh7 r
  | 0, b, _, hs, _, h2, hc => .inl ⟨b, rfl, hs, fun c h => h2 c (by omega) h, hc⟩
  | n + 1, b, hn, hs, h1, h2, hc => by
    have c := e8G hs
    simp only [w1A]
    by_cases hk : l5A b 6 ≤ B
    · right
      refine ⟨b, ?_, hc b (.stop hk), hs⟩
      simp (disch := omega) only [m6B, c, Option.bind_some, dT]
    · have hr := hs.2 n (by omega)
      by_cases he : b.getD n 0 = top
      · have ha : am b 6 = n := f2G (by omega) (fun c hc => by rw [he]; exact h1 c hc) (fun c h3 h4 => by rw [he]; have := h2 c (by omega) h4; omega)
        have hs' := u4D hs (show n < 6 by omega) (by omega)
        have hget : ∀ j, (dec b n).getD j 0 = if j = n then b.getD n 0 - 1 else b.getD j 0 := fun j => p2A _ _ _ _ _ (by rw [hs.1]; omega)
        have := d8D hB ht ht7 n (b := dec b n) (by omega) hs' (fun c h => by
            rw [hget]; split
            · omega
            · exact h1 c h) (fun c h3 h4 => by
            rw [hget]; split
            · omega
            · exact h2 c (by omega) h4) (fun r h3 => hc r (.go (by omega) (by rw [ha]; exact h3)))
        have hf : m6B n (B, b, top, ()) = some (.inl (B, dec b n, top, ())) := by
          simp (disch := omega) only [m6B, c, Option.bind_some, dF, eT, wT, Int.toNat_natCast, a3A]
          rfl
        rw [hf]
        exact this
      · have := d8D hB ht ht7 n (b := b) (by omega) hs h1 (fun c h3 h4 => by
          by_cases h5 : c = n
          · subst h5; have := h1 c h4; omega
          · exact h2 c (by omega) h4) hc
        have hf : m6B n (B, b, top, ()) = some (.inl (B, b, top, ())) := by
          simp (disch := omega) only [m6B, c, Option.bind_some, dF, eF]
        rw [hf]
        exact this
theorem f5G {B : Int} (hB : 0 ≤ B) {k : Int} {a : List Int} (h : sh7 a) : ∃ r, a1A z9B (k, B, a, 7, ()) = some (r, ()) ∧ n4A B a r ∧ sh7 r := by
 obtain ⟨y, h1, h2⟩ := l0A (f := z9B) (fun p => p.2.2.2.1.toNat) (fun p => ∃ b top, p = (k, B, b, top, ()) ∧ 0 ≤ top ∧ top ≤ 7 ∧ sh7 b ∧ (∀ c, c < 6 → b.getD c 0 ≤ top) ∧ ∀ r, n4A B b r → n4A B a r) (fun q => ∃ r, q = (r, ()) ∧ n4A B a r ∧ sh7 r) (fun p ⟨b, top, hp, ht0, ht7, hb, hm, hc⟩ => by
  subst hp
  by_cases ht : top > 0
  ·rcases d8D hB (show 1 ≤ top by omega) ht7 6 (Nat.le_refl 6) hb hm (fun c h3 h4 => by omega) hc with ⟨b', h3, h4, h5, h6⟩ | ⟨r, h3, h4, h5⟩
   ·left
    refine ⟨(k, B, b', top - 1, ()), ?_, ⟨b', top - 1, rfl, by omega, by omega, h4, h5, h6⟩, by simp only; omega⟩
    simp (disch := omega) only [z9B, dT, h3, Option.bind_some, a3A]
   ·right
    refine ⟨(r, ()), ?_, r, rfl, h4, h5⟩
    simp (disch := omega) only [z9B, dT, h3, Option.bind_some]
  ·right
   have hz : l5A b 6 ≤ B := by
    by_cases h3 : 0 < l5A b 6
    ·have := s7E hb h3; have := hm _ (u2D b (Nat.le_refl 6)); omega
    ·omega
   refine ⟨(b, ()), ?_, b, rfl, hc b (.stop hz), hb⟩
   simp (disch := omega) only [z9B, dF]) (k, B, a, 7, ()) ⟨a, 7, rfl, by omega, by omega, h, fun c hc => (h.2 c hc).2, fun r h => h⟩
 obtain ⟨r, rfl, h3, h4⟩ := h2
 exact ⟨r, h1, h3, h4⟩
theorem f6G {B : Int} {a r : List Int} (h : n4A B a r) : l5A r 6 ≤ B := by
 induction h with
 | stop h => exact h
 | go _ _ ih => exact ih
theorem f7G {l : List Int} (hl : l.length = 6) (h : lv l) : ∃ a, y1A l 120 = some (a, 0) ∧ r9B l 120 = some (a, 0) ∧ sh7 a ∧ n4A 120 (first l) a := by
 have m1 := r8E hl
 have m2 := s4E hl
 rw [if_pos h] at m1 m2
 obtain ⟨r, h1, h2, h3⟩ := f5G (B := 120) (by omega) (k := 0) (s5E h)
 obtain ⟨s, h4, h5, h6⟩ := f4G (B := 120) (by omega) (z := List.replicate 6 0) (s5E h)
 have := n4A.one h2 h5
 subst this
 refine ⟨r, ?_, ?_, h3, h2⟩
 ·simp (disch := omega) only [y1A, m1, Option.bind_some, nF, decide_eq_false, cond_false, f0G h, h1]
 ·simp (disch := omega) only [r9B, m2, Option.bind_some, nF, decide_eq_false, cond_false, f1G h, h4]
theorem u5D {l : List Int} (hl : l.length = 6) (h : ¬ lv l) : y1A l 120 = some (List.replicate 6 0, 1) ∧ r9B l 120 = some (List.replicate 6 0, 1) := by
 have m1 := r8E hl
 have m2 := s4E hl
 rw [if_neg h] at m1 m2
 constructor
 ·simp (disch := omega) only [y1A, m1, Option.bind_some, nT]; rfl
 ·simp (disch := omega) only [r9B, m2, Option.bind_some, nT]; rfl
end Go.Sq
namespace Go.Sq
open Go.Rx
def d9A (n : Nat) : Nat := if n < 1 then 0 else if n < 2 then 1 else if n < 4 then 2 else if n < 6 then 3 else if n < 10 then 4 else 5
theorem z5A (n : Nat) : d9A n < 6 := by unfold d9A; split <;> (try split) <;> (try split) <;> (try split) <;> (try split) <;> omega
theorem f8G : ∀ n, n < 16 → ∀ k, k < 5 - d9A n → c1A.getD (5 - k) 0 > (n : Int) := by decide
theorem f9G : ∀ n, n < 16 → ∀ k, k < d9A n → c1A.getD (k + 1) 0 ≤ (n : Int) := by decide
theorem t0E : ∀ n, n < 16 → c1A.getD (d9A n) 0 ≤ (n : Int) ∧ c1A.getD (d9A n + 1) 0 > (n : Int) := by decide
theorem u6B {n : Nat} (hn : n < 16) : y3B (n : Int) = some ((d9A n : Int), 0) := by
 have hb := z5A n
 have h0 := t0E n hn
 have a1 := b7A (f := n8C) (fun k => ((n : Int), ((5 : Int) - (k : Int)), c1A, ())) (5 - d9A n) (r := ((d9A n : Int), ())) (fun k hk => by
  have h := f8G n hn k hk
  have e : ((5 : Int) - (k : Int)).toNat = 5 - k := by omega
  have e2 : decide (c1A.getD (5 - k) 0 > (n : Int)) = true := decide_eq_true h
  simp (disch := omega) only [n8C, wT, e, e2, cond_true, a3A]
  rw [show (5 : Int) - (k : Int) - 1 = 5 - ((k + 1 : Nat) : Int) by omega]) (by
  have e : ((5 : Int) - ((5 - d9A n : Nat) : Int)).toNat = d9A n := by omega
  have e3 : ((5 : Int) - ((5 - d9A n : Nat) : Int)) = (d9A n : Int) := by omega
  have e2 : decide (c1A.getD (d9A n) 0 > (n : Int)) = false := decide_eq_false (by omega)
  simp (disch := omega) only [n8C, wT, e3, Int.toNat_natCast, e2, cond_false])
 have e : l6B = some c1A := rfl
 have e2 : decide ((n : Int) ≥ 16) = false := decide_eq_false (by omega)
 simp (disch := omega) only [y3B, dF, e2, Option.bind_some, cond_false, e]
 rw [show a1A n8C ((n : Int), 5, c1A, ()) = _ from a1]
 rfl
theorem d9D {n : Nat} (hn : n < 16) : k7C (n : Int) = some ((d9A n : Int), 0) := by
 have hb := z5A n
 have h0 := t0E n hn
 have a1 := b7A (f := p9C) (fun k => ((n : Int), (k : Int), ())) (d9A n) (r := ((d9A n : Int), ())) (fun k hk => by
  have h := f9G n hn k hk
  simp (disch := omega) only [p9C, a3A, u0D (show k < 6 by omega), Option.bind_some, dT]
  rfl) (by
  simp (disch := omega) only [p9C, a3A, u0D hb, Option.bind_some, dF])
 have e2 : decide ((n : Int) > 15) = false := decide_eq_false (by omega)
 simp (disch := omega) only [k7C, dF, e2, Option.bind_some, cond_false]
 rw [show a1A p9C ((n : Int), 0, ()) = _ from a1]
 rfl
def i1A (w : Int) : Int := 2 ^ w.toNat - 1
theorem e0D {w : Int} (h : 0 ≤ w) (h7 : w ≤ 7) : w = 0 ∨ w = 1 ∨ w = 2 ∨ w = 3 ∨ w = 4 ∨ w = 5 ∨ w = 6 ∨ w = 7 := by omega
theorem s0C {w : Int} (h : 0 ≤ w) (h7 : w ≤ 7) : y0B w = some (i1A w) := by
 rcases e0D h h7 with rfl | rfl | rfl | rfl | rfl | rfl | rfl | rfl <;> kernel_rfl
theorem t1E {w : Int} (h : 0 ≤ w) (h7 : w ≤ 7) : k8C w = some (i1A w) := by
 unfold k8C
 rcases e0D h h7 with rfl | rfl | rfl | rfl | rfl | rfl | rfl | rfl
 ·rw [j4A (r := (i1A 0, ())) 8 (by kernel_rfl)]; rfl
 ·rw [j4A (r := (i1A 1, ())) 8 (by kernel_rfl)]; rfl
 ·rw [j4A (r := (i1A 2, ())) 8 (by kernel_rfl)]; rfl
 ·rw [j4A (r := (i1A 3, ())) 8 (by kernel_rfl)]; rfl
 ·rw [j4A (r := (i1A 4, ())) 8 (by kernel_rfl)]; rfl
 ·rw [j4A (r := (i1A 5, ())) 8 (by kernel_rfl)]; rfl
 ·rw [j4A (r := (i1A 6, ())) 8 (by kernel_rfl)]; rfl
 ·rw [j4A (r := (i1A 7, ())) 8 (by kernel_rfl)]; rfl
theorem c6C {w : Int} (h : 0 ≤ w) (h7 : w ≤ 7) : 0 ≤ i1A w ∧ i1A w ≤ 127 ∧ (1 ≤ w → 1 ≤ i1A w) := by
 rcases e0D h h7 with rfl | rfl | rfl | rfl | rfl | rfl | rfl | rfl <;> decide
def n0A (L : Nat) : Int := (((8 + L % 8) * 2 ^ (L / 8) / 8 : Nat) : Int) + 1
def w5A (L : Nat) (w : Int) : Int := (n0A L - 1) / i1A w + 1
theorem t2E {k : Nat} (h : k ≤ 31) : 2 ^ k ≤ 2147483648 := Nat.pow_le_pow_right (n := 2) (by omega) h
theorem u6D {L : Nat} (hL : L < 256) : (8 + L % 8) * 2 ^ (L / 8) ≤ 15 * 2147483648 ∧ 8 ≤ (8 + L % 8) * 2 ^ (L / 8) := by
 refine ⟨Nat.mul_le_mul (by omega) (t2E (by omega)), ?_⟩
 have := Nat.mul_le_mul (show 8 ≤ 8 + L % 8 by omega) (Nat.one_le_two_pow (n := L / 8))
 omega
theorem e1D {L : Nat} (hL : L < 256) : 2 ≤ n0A L ∧ n0A L ≤ 4026531841 := by
 have := u6D hL
 unfold n0A; omega
theorem c7C {a b : Nat} : ((a : Int)).tdiv (b : Int) = ((a / b : Nat) : Int) := by simp
theorem t3E {L : Nat} (hL : L < 256) : x9B (L : Int) = some (n0A L, 0) := by
 have e2 : decide ((L : Int) > 255) = false := decide_eq_false (by omega)
 have e3 : (L : Int).tdiv 8 = ((L / 8 : Nat) : Int) := c7C (b := 8)
 have e4 : (8 : Int) + (L : Int).tmod 8 = ((8 + L % 8 : Nat) : Int) := by
  rw [show (L : Int).tmod 8 = ((L % 8 : Nat) : Int) from rfl]; rfl
 have hp := u6D hL
 have e5 : c9A .i64 ((8 + L % 8 : Nat) : Int) ((L / 8 : Nat) : Int) = (((8 + L % 8) * 2 ^ (L / 8) : Nat) : Int) := by
  unfold c9A
  rw [Int.toNat_natCast, Nat.min_eq_left (show L / 8 ≤ IntKind.i64.bits by show L / 8 ≤ 64; omega)]
  have : ((8 + L % 8 : Nat) : Int) * 2 ^ (L / 8) = (((8 + L % 8) * 2 ^ (L / 8) : Nat) : Int) := by simp
  rw [this, a3A (by omega) (by omega)]
 have e6 : (((8 + L % 8) * 2 ^ (L / 8) : Nat) : Int).tdiv 8 = (((8 + L % 8) * 2 ^ (L / 8) / 8 : Nat) : Int) := c7C (b := 8)
 unfold n0A
 simp (disch := omega) only [x9B, dF, e2, Option.bind_some, cond_false, e3, e4, a3A, dT, e5, e6]
theorem t4E {L : Nat} (hL : L < 256) : z1B (L : Int) = some (n0A L, 0) := by
 have e2 : decide ((L : Int) > 255) = false := decide_eq_false (by omega)
 have e3 : (L : Int).tdiv 8 = ((L / 8 : Nat) : Int) := c7C (b := 8)
 have e4 : (8 : Int) + (L : Int).tmod 8 = ((8 + L % 8 : Nat) : Int) := by
  rw [show (L : Int).tmod 8 = ((L % 8 : Nat) : Int) from rfl]; rfl
 have hp := u6D hL
 have a1 := b7A (f := q0C) (fun k => ((((8 + L % 8) * 2 ^ k : Nat) : Int), ((L / 8 : Nat) : Int), (k : Int), ())) (L / 8) (r := ((((8 + L % 8) * 2 ^ (L / 8) : Nat) : Int), ())) (fun k hk => by
  have h1 : (8 + L % 8) * 2 ^ k ≤ 15 * 2147483648 := Nat.mul_le_mul (by omega) (t2E (by omega))
  have h2 : (((8 + L % 8) * 2 ^ (k + 1) : Nat) : Int) = (((8 + L % 8) * 2 ^ k : Nat) : Int) * 2 := by rw [Nat.pow_succ, ← Nat.mul_assoc]; omega
  simp (disch := omega) only [q0C, dT, a3A, h2]
  rfl) (by simp (disch := omega) only [q0C, dF])
 have e6 : (((8 + L % 8) * 2 ^ (L / 8) : Nat) : Int).tdiv 8 = (((8 + L % 8) * 2 ^ (L / 8) / 8 : Nat) : Int) := c7C (b := 8)
 unfold n0A
 have e0 : (8 + L % 8) * 2 ^ 0 = 8 + L % 8 := by omega
 simp only [e0] at a1
 simp (disch := omega) only [z1B, dF, e2, Option.bind_some, cond_false, e3, e4, a3A]
 rw [show a1A q0C (((8 + L % 8 : Nat) : Int), ((L / 8 : Nat) : Int), 0, ()) = _ from a1]
 simp (disch := omega) only [Option.bind_some, e6, a3A]
theorem u7D {p m : Int} (hp : 0 ≤ p) (hp2 : p ≤ 4026531841) (hm : 1 ≤ m) : 0 ≤ p / m ∧ p / m ≤ 4026531841 :=
 ⟨Int.ediv_nonneg hp (by omega), Int.le_trans (Int.ediv_le_self m hp) hp2⟩
theorem g0G {L : Nat} (hL : L < 256) {w : Int} (h1 : 1 ≤ w) (h7 : w ≤ 7) : y3C (L : Int) w = some (w5A L w, 0) := by
 have p := e1D hL
 have m := c6C (show 0 ≤ w by omega) h7
 have m1 := m.2.2 h1
 have e2 : decide (w > 7) = false := decide_eq_false (by omega)
 have e3 : (n0A L - 1).tdiv (i1A w) = (n0A L - 1) / i1A w := Int.tdiv_eq_ediv_of_nonneg (by omega)
 have d := u7D (show 0 ≤ n0A L - 1 by omega) (by omega) m1
 unfold w5A
 simp (disch := omega) only [y3C, t3E hL, Option.bind_some, nF, dF, e2, cond_false, s0C, nT, a3A, e3]
theorem g1G {L : Nat} (hL : L < 256) {w : Int} (h1 : 1 ≤ w) (h7 : w ≤ 7) : a2D (L : Int) w = some (w5A L w, 0) := by
 have p := e1D hL
 have m := c6C (show 0 ≤ w by omega) h7
 have m1 := m.2.2 h1
 have e2 : decide (w > 7) = false := decide_eq_false (by omega)
 have e3 : (n0A L + i1A w - 1).tdiv (i1A w) = (n0A L - 1) / i1A w + 1 := by
  rw [Int.tdiv_eq_ediv_of_nonneg (by omega), show n0A L + i1A w - 1 = (n0A L - 1) + i1A w * 1 by omega, Int.add_mul_ediv_left _ _ (by omega)]
 have d := u7D (show 0 ≤ n0A L - 1 by omega) (by omega) m1
 unfold w5A
 simp (disch := omega) only [a2D, t4E hL, Option.bind_some, nF, dF, e2, cond_false, t1E, nT, a3A, e3]
noncomputable def g2A (l : List Int) : List Int := ((y1A l 120).getD ([], 1)).1
theorem c8C {l : List Int} (hl : l.length = 6) (h : lv l) : y1A l 120 = some (g2A l, 0) ∧ r9B l 120 = some (g2A l, 0) ∧ sh7 (g2A l) ∧ l5A (g2A l) 6 ≤ 120 := by
 obtain ⟨a, h1, h2, h3, h4⟩ := f7G hl h
 have : g2A l = a := by unfold g2A; rw [h1]; rfl
 rw [this]; exact ⟨h1, h2, h3, f6G h4⟩
noncomputable def h5A (l : List Int) (n : Nat) : Int := (g2A l).getD (d9A n) 0
theorem c9C {l : List Int} (hl : l.length = 6) (h : lv l) (n : Nat) : 0 ≤ h5A l n ∧ h5A l n ≤ 7 := (c8C hl h).2.2.1.2 _ (z5A n)
noncomputable def b2A (l : List Int) (n : Nat) : Int := if h5A l n = 0 then 0 else i1A (h5A l n)
noncomputable def h2A (l : List Int) (n : Nat) : Int := if h5A l n = 0 then 0 else w5A (l.getD (d9A n) 0).toNat (h5A l n)
noncomputable def scF (l : List Int) (n : Nat) : Int × Int := if h5A l n = 0 then (0, 0) else (w5A (l.getD (d9A n) 0).toNat (h5A l n), i1A (h5A l n))
theorem e2D (l : List Int) (n : Nat) : scF l n = (h2A l n, b2A l n) := by unfold scF h2A b2A; split <;> rfl
theorem p5A {l : List Int} (hl : l.length = 6) (h : lv l) (n : Nat) : 0 ≤ b2A l n ∧ b2A l n ≤ 127 := by
 have w := c9C hl h n
 unfold b2A
 split
 ·omega
 ·have := c6C w.1 w.2; omega
theorem t5E : ∀ b, b < 6 → ∀ n : Nat, n < 16 → (c1A.getD b 0 ≤ (n : Int) ∧ (n : Int) < c1A.getD (b + 1) 0 ↔ d9A n = b) := by decide
theorem g2G : ∀ b, b < 6 → 0 ≤ c1A.getD b 0 ∧ c1A.getD b 0 < c1A.getD (b + 1) 0 ∧ c1A.getD (b + 1) 0 ≤ 16 := by decide
theorem g3G : ∀ {b : Nat}, b < 6 → p1D (b : Int) = some (c1A.getD b 0, (c1A.getD (b + 1) 0, 0))
 | 0, _ => by kernel_rfl
 | 1, _ => by kernel_rfl
 | 2, _ => by kernel_rfl
 | 3, _ => by kernel_rfl
 | 4, _ => by kernel_rfl
 | 5, _ => by kernel_rfl
theorem t6E (n i : Nat) : (List.replicate n ((0, 0) : Int × Int)).getD i (0, 0) = (0, 0) := by
 simp only [List.getD_eq_getElem?_getD, List.getElem?_replicate]; split <;> rfl
noncomputable def r2A : List (Int × Int) := List.replicate 16 (0, 0)
theorem u8D {l : List Int} (hl : l.length = 6) (h : lv l) : l7B l = some (a5A (scF l) 16, (g2A l, 0)) := by
 obtain ⟨s1, _, s3, _⟩ := c8C hl h
 generalize ha : g2A l = a at s1 s3
 have hw : ∀ n, h5A l n = a.getD (d9A n) 0 := fun n => by unfold h5A; rw [ha]
 have z16 : r2A.length = 16 := by simp [r2A]
 have a1 := b7A (f := d7B) (fun b => (0, a, (b : Int), l, b4A (scF l) (c1A.getD b 0).toNat r2A, a, ())) 6 (r := (0, b4A (scF l) 16 r2A, a, ())) (fun b hb => by
  have hab := s3.2 b hb
  have hlb := h b hb
  have he := g2G b hb
  by_cases hz : a.getD b 0 = 0
  ·have e : b4A (scF l) (c1A.getD (b + 1) 0).toNat r2A = b4A (scF l) (c1A.getD b 0).toNat r2A := by
    refine p3A (0, 0) (by rw [q4A, q4A]) fun j hj => ?_
    rw [q4A, z16] at hj
    rw [u2A _ _ _ _ _ (by rw [z16]; omega), u2A _ _ _ _ _ (by rw [z16]; omega)]
    by_cases h1 : j < (c1A.getD b 0).toNat
    ·rw [if_pos h1, if_pos (by omega)]
    ·rw [if_neg h1]
     by_cases h2 : j < (c1A.getD (b + 1) 0).toNat
     ·rw [if_pos h2]
      have hb' : d9A j = b := (t5E b hb j hj).1 ⟨by omega, by omega⟩
      unfold scF r2A
      rw [hw, hb', hz, t6E]; rfl
     ·rw [if_neg h2]
   simp (disch := omega) only [d7B, dT, wT, Int.toNat_natCast, nF, Option.bind_some, eT, d2A, e, hz, beq_self_eq_true, cond_true]
  ·have hq := c6C hab.1 hab.2
   have hlN : l.getD b 0 = (((l.getD b 0).toNat : Nat) : Int) := by omega
   have hst := g0G (L := (l.getD b 0).toNat) (by omega) (w := a.getD b 0) (by omega) hab.2
   rw [← hlN] at hst
   have hin := u3B (f := n6C) (fun k => (0, a.getD b 0, c1A.getD (b + 1) 0, w5A (l.getD b 0).toNat (a.getD b 0), c1A.getD b 0 + (k : Int), a, (b : Int), l, b4A (scF l) ((c1A.getD b 0).toNat + k) r2A, a, ())) (c1A.getD (b + 1) 0 - c1A.getD b 0).toNat (fun k hk => by
    have hb' : d9A ((c1A.getD b 0).toNat + k) = b := (t5E b hb _ (by omega)).1 ⟨by omega, by omega⟩
    have e2 : (c1A.getD b 0 + (k : Int)).toNat = (c1A.getD b 0).toNat + k := by omega
    have e3 : c1A.getD b 0 + (k : Int) + 1 = c1A.getD b 0 + ((k + 1 : Nat) : Int) := by omega
    have e4 : scF l ((c1A.getD b 0).toNat + k) = (w5A (l.getD b 0).toNat (a.getD b 0), i1A (a.getD b 0)) := by
     unfold scF; rw [hw, hb', if_neg hz]
    simp (disch := omega) only [n6C, dT, s0C, Option.bind_some, wT, e2, a3A, e3, ← Nat.add_assoc, k3A, e4])
   have hend : n6C (0, a.getD b 0, c1A.getD (b + 1) 0, w5A (l.getD b 0).toNat (a.getD b 0), c1A.getD b 0 + (((c1A.getD (b + 1) 0 - c1A.getD b 0).toNat : Nat) : Int), a, (b : Int), l, b4A (scF l) ((c1A.getD b 0).toNat + (c1A.getD (b + 1) 0 - c1A.getD b 0).toNat) r2A, a, ()) = some (.inr (0, a, (b : Int), l, b4A (scF l) ((c1A.getD b 0).toNat + (c1A.getD (b + 1) 0 - c1A.getD b 0).toNat) r2A, a, ())) := by
    simp (disch := omega) only [n6C, dF]
   have hin2 := hin.trans (w3A hend)
   simp only [Int.natCast_zero, Int.add_zero, Nat.add_zero] at hin2
   rw [show (c1A.getD b 0).toNat + (c1A.getD (b + 1) 0 - c1A.getD b 0).toNat = (c1A.getD (b + 1) 0).toNat by omega] at hin2
   simp (disch := omega) only [d7B, dT, wT, Int.toNat_natCast, nF, Option.bind_some, eF, g3G hb, hst, hin2, d2A, beq_false_of_ne hz, cond_false]) (by
  simp (disch := omega) only [d7B, dF]; rfl)
 have e16 : b4A (scF l) 16 r2A = a5A (scF l) 16 := l4A z16
 rw [e16] at a1
 simp only [l7B, s1, Option.bind_some]
 rw [show a1A d7B (0, a, 0, l, List.replicate 16 (0, 0), a, ()) = _ from a1]
 rfl
theorem g4G {l : List Int} (hl : l.length = 6) (h : ¬ lv l) : l7B l = some (r2A, (List.replicate 6 0, 1)) := by
 have s1 := (u5D hl h).1
 have a1 := b7A (f := d7B) (fun b => (1, List.replicate 6 0, (b : Int), l, r2A, List.replicate 6 0, ())) 6 (r := (1, r2A, List.replicate 6 0, ())) (fun b hb => by
  simp (disch := omega) only [d7B, dT, wT, Int.toNat_natCast, nT, Option.bind_some, d2A, cond_true]) (by
  simp (disch := omega) only [d7B, dF])
 simp only [l7B, s1, Option.bind_some]
 rw [show a1A d7B (1, List.replicate 6 0, 0, l, List.replicate 16 (0, 0), List.replicate 6 0, ()) = _ from a1]
 rfl
end Go.Sq
namespace Go.Sq
open Go.Rx
theorem s1C {l : List Int} (hl : l.length = 6) (h : lv l) : d2B l = some (a5A (h2A l) 16, (a5A (b2A l) 16, (g2A l, true))) := by
 obtain ⟨_, s1, s3, _⟩ := c8C hl h
 have z16 : (List.replicate 16 (0 : Int)).length = 16 := by simp
 have a1 := b7A (f := b2C) (fun n => ((n : Int), l, List.replicate 16 0, List.replicate 16 0, List.replicate 6 0, b4A (h2A l) n (List.replicate 16 0), b4A (b2A l) n (List.replicate 16 0), g2A l, ())) 16
  (r := (List.replicate 16 0, List.replicate 16 0, List.replicate 6 0, b4A (h2A l) 16 (List.replicate 16 0), b4A (b2A l) 16 (List.replicate 16 0), g2A l, ())) (fun n hn => by
  have hb := z5A n
  have hab := s3.2 _ hb
  have hlb := h _ hb
  by_cases hz : (g2A l).getD (d9A n) 0 = 0
  ·have e1 : ∀ g : Nat → Int, g n = 0 → (b4A g n (List.replicate 16 (0 : Int))).set n (g n) = b4A g n (List.replicate 16 0) := fun g hg => by
    refine p3A 0 (by rw [List.length_set]) fun j hj => ?_
    rw [List.length_set, q4A, z16] at hj
    rw [p2A _ _ _ _ _ (by rw [q4A, z16]; exact hn)]
    by_cases hjn : j = n
    ·subst hjn; rw [if_pos rfl, u2A _ _ _ _ _ (by rw [z16]; omega), if_neg (by omega), n3A, hg]
    ·rw [if_neg hjn]
   have e2 : decide ((g2A l).getD (d9A n) 0 > 0) = false := decide_eq_false (by omega)
   have e3 := e1 (h2A l) (if_pos hz)
   have e4 := e1 (b2A l) (if_pos hz)
   simp (disch := omega) only [b2C, dT, d9D hn, wT, Int.toNat_natCast, Option.bind_some, e2, cond_false, d2A, k3A, e3, e4]
  ·have hlN : l.getD (d9A n) 0 = (((l.getD (d9A n) 0).toNat : Nat) : Int) := by omega
   have hst := g1G (L := (l.getD (d9A n) 0).toNat) (by omega) (w := (g2A l).getD (d9A n) 0) (by omega) hab.2
   rw [← hlN] at hst
   have hm := t1E hab.1 hab.2
   have e2 : decide ((g2A l).getD (d9A n) 0 > 0) = true := decide_eq_true (by omega)
   have e3 : h2A l n = w5A (l.getD (d9A n) 0).toNat ((g2A l).getD (d9A n) 0) := if_neg hz
   have e4 : b2A l n = i1A ((g2A l).getD (d9A n) 0) := if_neg hz
   simp (disch := omega) only [b2C, dT, d9D hn, wT, Int.toNat_natCast, Option.bind_some, e2, cond_true, hst, hm, d2A, k3A, e3, e4]) (by
  simp (disch := omega) only [b2C, dF])
 rw [l4A z16, l4A z16] at a1
 simp (disch := omega) only [d2B, s1, Option.bind_some, nF]
 rw [show a1A b2C (0, l, List.replicate 16 0, List.replicate 16 0, List.replicate 6 0, List.replicate 16 0, List.replicate 16 0, g2A l, ()) = _ from a1]
 rfl
theorem t7E {l : List Int} (hl : l.length = 6) (h : ¬ lv l) : d2B l = some (List.replicate 16 0, (List.replicate 16 0, (List.replicate 6 0, false))) := by
 have s1 := (u5D hl h).2
 simp (disch := omega) only [d2B, s1, Option.bind_some, nT]
noncomputable def p6A (q l : List Int) : Prop := lv l ∧ ∀ n, n < 16 → -b2A l n ≤ q.getD n 0 ∧ q.getD n 0 ≤ b2A l n
def q5A (m v : Int) : Int := if -m < (if m < v then m else v) then (if m < v then m else v) else -m
theorem t8E {m v : Int} (hm : 0 ≤ m) : q5A m v = v ↔ -m ≤ v ∧ v ≤ m := by unfold q5A; split <;> split <;> omega
open Classical in
theorem t9E {q l : List Int} (hq : q.length = 16) (hl : l.length = 6) : y1B q l = some (decide (p6A q l)) := by
 by_cases h : lv l
 ·have s := u8D hl h
  have a1 := b7A (f := i9B) (fun i => (0, q, (i : Int), q, a5A (scF l) 16, b4A (fun n => q5A (b2A l n) (q.getD n 0)) i q, ())) 16 (r := (0, q, b4A (fun n => q5A (b2A l n) (q.getD n 0)) 16 q, ())) (fun i hi => by
   have e : (a5A (scF l) 16).getD i (0, 0) = (h2A l i, b2A l i) := by rw [e0A _ _ _ _ hi, e2D]
   have hm := p5A hl h i
   have ec : IntKind.i64.wrap (0 - b2A l i) = -b2A l i := by rw [a3A (by omega) (by omega)]; omega
   simp (disch := omega) only [i9B, dT, wT, Int.toNat_natCast, d2A, k3A, e, ec]
   rfl) (by simp (disch := omega) only [i9B, dF])
  simp only [y1B, s, Option.bind_some]
  rw [show a1A i9B (0, q, 0, q, a5A (scF l) 16, q, ()) = _ from a1]
  simp only [Option.bind_some, beq_self_eq_true, cond_true]
  have e : (b4A (fun n => q5A (b2A l n) (q.getD n 0)) 16 q == q) = decide (p6A q l) := by
   rw [Bool.eq_iff_iff, beq_iff_eq, decide_eq_true_eq]
   constructor
   ·intro he
    refine ⟨h, fun n hn => (t8E (p5A hl h n).1).1 ?_⟩
    have : (b4A (fun n => q5A (b2A l n) (q.getD n 0)) 16 q).getD n 0 = q.getD n 0 := by rw [he]
    rw [u2A _ _ _ _ _ (by omega), if_pos hn] at this
    exact this
   ·rintro ⟨_, h2⟩
    refine p3A 0 (q4A _ _ _) fun n hn => ?_
    rw [q4A, hq] at hn
    rw [u2A _ _ _ _ _ (by omega), if_pos hn]
    exact (t8E (p5A hl h n).1).2 (h2 n hn)
  rw [e]
 ·have s := g4G hl h
  have a1 := u3B (f := i9B) (fun i => (1, q, (i : Int), q, r2A, b4A (fun n => q5A 0 (q.getD n 0)) i q, ())) 16 (fun i hi => by
   have e : r2A.getD i (0, 0) = (0, 0) := t6E 16 i
   have ec : IntKind.i64.wrap (0 - 0) = -0 := by decide
   simp (disch := omega) only [i9B, dT, wT, Int.toNat_natCast, d2A, k3A, e, ec]
   rfl)
  have a2 := a1.trans (w3A (r := (1, q, b4A (fun n => q5A 0 (q.getD n 0)) 16 q, ())) (by simp (disch := omega) only [i9B, dF]))
  simp only [y1B, s, Option.bind_some]
  rw [show a1A i9B (1, q, 0, q, r2A, q, ()) = _ from a2]
  simp only [Option.bind_some]
  rw [decide_eq_false (show ¬ p6A q l from fun hm => h hm.1)]
  rfl
open Classical in
theorem u0E {q l : List Int} (hl : l.length = 6) : i3B q l = some (decide (p6A q l)) := by
 have stay : ∀ {m : List Int} {i : Nat}, i < 16 → t1A (false, (i : Int), q, m, ()) = some (.inl (false, ((i + 1 : Nat) : Int), q, m, ())) := fun hi => by
  simp (disch := omega) only [t1A, dT, cond_false, Option.bind_some, d2A]
 have fall : ∀ {m : List Int} (k n : Nat), n + k = 16 → a1A t1A (false, (n : Int), q, m, ()) = some (false, ()) := fun {m} k => by
  induction k with
  | zero => intro n hn; refine w3A ?_; simp (disch := omega) only [t1A, dF]
  | succ k ih => intro n hn; rw [z2A (stay (by omega))]; exact ih (n + 1) (by omega)
 by_cases h : lv l
 ·have s := s1C hl h
  have em : ∀ i, i < 16 → (a5A (b2A l) 16).getD i 0 = b2A l i := fun i hi => e0A _ _ _ _ hi
  have ec : ∀ i, IntKind.i64.wrap (0 - b2A l i) = -b2A l i := fun i => by
   have hm := p5A hl h i
   rw [a3A (by omega) (by omega)]; omega
  have step : ∀ i, i < 16 → -b2A l i ≤ q.getD i 0 ∧ q.getD i 0 ≤ b2A l i → t1A (true, (i : Int), q, a5A (b2A l) 16, ()) = some (.inl (true, ((i + 1 : Nat) : Int), q, a5A (b2A l) 16, ())) := fun i hi hh => by
   have d1 : decide (q.getD i 0 ≥ -b2A l i) = true := decide_eq_true hh.1
   have d2 : decide (q.getD i 0 ≤ b2A l i) = true := decide_eq_true hh.2
   simp (disch := omega) only [t1A, dT, wT, Int.toNat_natCast, cond_true, Option.bind_some, em i hi, ec, d1, d2, d2A]
  simp only [i3B, s, Option.bind_some]
  rcases k0B (fun i => -b2A l i ≤ q.getD i 0 ∧ q.getD i 0 ≤ b2A l i) 16 with hh | ⟨k, hk, hh, hn⟩
  ·rw [show a1A t1A (true, 0, q, a5A (b2A l) 16, ()) = some (true, ()) from b7A (fun i => (true, (i : Int), q, a5A (b2A l) 16, ())) 16 (fun i hi => step i hi (hh i hi)) (by simp (disch := omega) only [t1A, dF])]
   rw [decide_eq_true (show p6A q l from ⟨h, hh⟩)]; rfl
  ·have a1 := u3B (f := t1A) (fun i => (true, (i : Int), q, a5A (b2A l) 16, ())) k (fun i hi => step i (by omega) (hh i hi))
   have a2 : t1A (true, (k : Int), q, a5A (b2A l) 16, ()) = some (.inl (false, ((k + 1 : Nat) : Int), q, a5A (b2A l) 16, ())) := by
    by_cases h0 : q.getD k 0 ≥ -b2A l k
    ·have d1 : decide (q.getD k 0 ≥ -b2A l k) = true := decide_eq_true h0
     have d2 : decide (q.getD k 0 ≤ b2A l k) = false := decide_eq_false fun h1 => hn ⟨h0, h1⟩
     simp (disch := omega) only [t1A, dT, wT, Int.toNat_natCast, cond_true, Option.bind_some, em k hk, ec, d1, d2, d2A]
    ·have d1 : decide (q.getD k 0 ≥ -b2A l k) = false := decide_eq_false h0
     simp (disch := omega) only [t1A, dT, wT, Int.toNat_natCast, cond_true, cond_false, Option.bind_some, em k hk, ec, d1, d2A]
   rw [show a1A t1A (true, 0, q, a5A (b2A l) 16, ()) = some (false, ()) from a1.trans ((z2A a2).trans (fall (16 - (k + 1)) (k + 1) (by omega)))]
   rw [decide_eq_false (show ¬ p6A q l from fun hm => hn (hm.2 k hk))]; rfl
 ·have s := t7E hl h
  simp only [i3B, s, Option.bind_some]
  rw [show a1A t1A (false, 0, q, List.replicate 16 0, ()) = some (false, ()) from fall 16 0 rfl]
  rw [decide_eq_false (show ¬ p6A q l from fun hm => h hm.1)]; rfl
abbrev FrT := Int × List Int × List Int
def l8A (f : FrT) : Prop := f.2.1.length = 6 ∧ f.2.2.length = 16
noncomputable def e2A (f : FrT) (p : List Int) : Prop := lv p ∧ p6A f.2.2 f.2.1 ∧ (f.1 = 0 ∨ f.1 = 1 ∧ l7A f.2.1 p ∨ f.1 = 2 ∧ f.2.2 = List.replicate 16 0)
open Classical in
noncomputable def e3D (f : FrT) (p : List Int) : Int := if e2A f p then 0 else 1
theorem k2B {f : FrT} {p : List Int} (h : e2A f p) : e3D f p = 0 := if_pos h
theorem t6A {f : FrT} {p : List Int} (h : ¬ e2A f p) : e3D f p = 1 := if_neg h
open Classical in
theorem u1E {f : FrT} {p : List Int} (hf : l8A f) (hp : p.length = 6) : q9A f p = some (e3D f p) := by
 obtain ⟨k, L, Q⟩ := f
 obtain ⟨hL, hQ⟩ := hf
 simp only at hL hQ
 have c1 := o1B hp
 have c2 := t9E hQ hL
 have c3 := r6E hL hp
 by_cases h1 : lv p
 ·rw [p4A h1] at c1
  by_cases h2 : p6A Q L
  ·rw [decide_eq_true h2] at c2
   by_cases k0 : k = 0
   ·rw [k2B (show e2A (k, L, Q) p from ⟨h1, h2, .inl k0⟩)]
    simp (disch := omega) only [q9A, c1, c2, Option.bind_some, eT, beq_self_eq_true, cond_true, Bool.not_true, cond_false]
   ·by_cases k1 : k = 1
    ·by_cases h3 : l7A L p
     ·rw [decide_eq_true h3] at c3
      rw [k2B (show e2A (k, L, Q) p from ⟨h1, h2, .inr (.inl ⟨k1, h3⟩)⟩)]
      simp (disch := omega) only [q9A, c1, c2, c3, Option.bind_some, eT, eF, beq_self_eq_true, cond_true, Bool.not_true, cond_false]
     ·rw [decide_eq_false h3] at c3
      rw [t6A (show ¬ e2A (k, L, Q) p from fun h => by rcases h.2.2 with h4 | ⟨_, h4⟩ | ⟨h4, _⟩ <;> simp only at h4 <;> first | omega | exact h3 h4)]
      simp (disch := omega) only [q9A, c1, c2, c3, Option.bind_some, eT, eF, beq_self_eq_true, cond_true, Bool.not_false]
    ·by_cases k2 : k = 2
     ·by_cases h3 : Q = List.replicate 16 0
      ·rw [k2B (show e2A (k, L, Q) p from ⟨h1, h2, .inr (.inr ⟨k2, h3⟩)⟩)]
       subst h3
       simp (disch := omega) only [q9A, c1, c2, Option.bind_some, eT, eF, beq_self_eq_true, cond_true, Bool.not_true, cond_false]
      ·rw [t6A (show ¬ e2A (k, L, Q) p from fun h => by rcases h.2.2 with h4 | ⟨h4, _⟩ | ⟨_, h4⟩ <;> simp only at h4 <;> first | omega | exact h3 h4)]
       have : (Q == List.replicate 16 0) = false := beq_false_of_ne h3
       simp (disch := omega) only [q9A, c1, c2, Option.bind_some, eT, eF, beq_self_eq_true, cond_true, this, Bool.not_false]
     ·rw [t6A (show ¬ e2A (k, L, Q) p from fun h => by rcases h.2.2 with h4 | ⟨h4, _⟩ | ⟨h4, _⟩ <;> simp only at h4 <;> omega)]
      simp (disch := omega) only [q9A, c1, c2, Option.bind_some, eT, eF, beq_self_eq_true, cond_true, Bool.not_false]
  ·rw [decide_eq_false h2] at c2
   rw [t6A (show ¬ e2A (k, L, Q) p from fun h => h2 h.2.1)]
   by_cases k0 : k = 0
   ·simp (disch := omega) only [q9A, c1, c2, Option.bind_some, eT, beq_self_eq_true, cond_true, Bool.not_false]
   ·by_cases k1 : k = 1
    ·simp (disch := omega) only [q9A, c1, c2, Option.bind_some, eT, eF, beq_self_eq_true, cond_true, cond_false, Bool.not_false]
    ·by_cases k2 : k = 2
     ·simp (disch := omega) only [q9A, c1, c2, Option.bind_some, eT, eF, beq_self_eq_true, cond_true, cond_false, Bool.not_false]
     ·simp (disch := omega) only [q9A, c1, c2, Option.bind_some, eF, beq_self_eq_true, cond_true, Bool.not_false]
 ·rw [w4A h1] at c1
  rw [t6A (show ¬ e2A (k, L, Q) p from fun h => h1 h.1)]
  by_cases k0 : k = 0
  ·simp (disch := omega) only [q9A, c1, Option.bind_some, eT, eF, cond_true, Bool.not_false]
  ·by_cases k1 : k = 1
   ·simp (disch := omega) only [q9A, c1, Option.bind_some, eT, eF, cond_true, cond_false, Bool.not_false]
   ·by_cases k2 : k = 2
    ·simp (disch := omega) only [q9A, c1, Option.bind_some, eT, eF, cond_true, cond_false, Bool.not_false]
    ·simp (disch := omega) only [q9A, c1, Option.bind_some, eF, cond_true, Bool.not_false]
open Classical in
theorem u9D {f : FrT} {p : List Int} (hf : l8A f) (hp : p.length = 6) : q2A f p = some (e3D f p) := by
 obtain ⟨k, L, Q⟩ := f
 obtain ⟨hL, hQ⟩ := hf
 simp only at hL hQ
 have c0 := k1B hL
 have c1 := k1B hp
 have c2 := u0E (q := Q) hL
 have c3 := r7E hL hp
 have z16 : ([0, 0, 0, 0, 0, 0, 0, 0, 0, 0, 0, 0, 0, 0, 0, 0] : List Int) = List.replicate 16 0 := rfl
 by_cases kl : k < 0
 ·rw [t6A (show ¬ e2A (k, L, Q) p from fun h => by rcases h.2.2 with h4 | ⟨h4, _⟩ | ⟨h4, _⟩ <;> simp only at h4 <;> omega)]
  simp (disch := omega) only [q2A, dT, Option.bind_some, cond_true]
 by_cases ku : k > 2
 ·rw [t6A (show ¬ e2A (k, L, Q) p from fun h => by rcases h.2.2 with h4 | ⟨h4, _⟩ | ⟨h4, _⟩ <;> simp only at h4 <;> omega)]
  simp (disch := omega) only [q2A, dT, dF, Option.bind_some, cond_true]
 by_cases h0 : lv L
 ·rw [p4A h0] at c0
  by_cases h1 : lv p
  ·rw [p4A h1] at c1
   have kk : k = 0 ∨ k = 1 ∨ k = 2 := by omega
   by_cases h2 : p6A Q L
   ·rw [decide_eq_true h2] at c2
    rcases kk with k0 | k1 | k2
    ·rw [k2B (show e2A (k, L, Q) p from ⟨h1, h2, .inl k0⟩)]
     simp (disch := omega) only [q2A, dF, c0, c1, c2, Option.bind_some, nF, eF, bne_self_eq_false, Bool.not_true, cond_false]
    ·by_cases h3 : l7A L p
     ·rw [decide_eq_true h3] at c3
      rw [k2B (show e2A (k, L, Q) p from ⟨h1, h2, .inr (.inl ⟨k1, h3⟩)⟩)]
      simp (disch := omega) only [q2A, dF, c0, c1, c2, c3, Option.bind_some, nF, eT, eF, bne_self_eq_false, Bool.not_true, cond_false]
     ·rw [decide_eq_false h3] at c3
      rw [t6A (show ¬ e2A (k, L, Q) p from fun h => by rcases h.2.2 with h4 | ⟨_, h4⟩ | ⟨h4, _⟩ <;> simp only at h4 <;> first | omega | exact h3 h4)]
      simp (disch := omega) only [q2A, dF, c0, c1, c3, Option.bind_some, nF, eT, bne_self_eq_false, Bool.not_false, cond_true, cond_false]
    ·by_cases h3 : Q = List.replicate 16 0
     ·rw [k2B (show e2A (k, L, Q) p from ⟨h1, h2, .inr (.inr ⟨k2, h3⟩)⟩)]
      subst h3
      simp (disch := omega) only [q2A, dF, c0, c1, c2, Option.bind_some, nF, eT, eF, z16, beq_self_eq_true, bne_self_eq_false, Bool.not_true, cond_false]
     ·rw [t6A (show ¬ e2A (k, L, Q) p from fun h => by rcases h.2.2 with h4 | ⟨h4, _⟩ | ⟨_, h4⟩ <;> simp only at h4 <;> first | omega | exact h3 h4)]
      have : (Q == List.replicate 16 0) = false := beq_false_of_ne h3
      simp (disch := omega) only [q2A, dF, c0, c1, Option.bind_some, nF, eT, eF, z16, this, bne_self_eq_false, Bool.not_false, cond_true, cond_false]
   ·rw [decide_eq_false h2] at c2
    rw [t6A (show ¬ e2A (k, L, Q) p from fun h => h2 h.2.1)]
    rcases kk with k0 | k1 | k2
    ·simp (disch := omega) only [q2A, dF, c0, c1, c2, Option.bind_some, nF, eF, bne_self_eq_false, Bool.not_false, cond_false, cond_true]
    ·by_cases h3 : l7A L p
     ·rw [decide_eq_true h3] at c3
      simp (disch := omega) only [q2A, dF, c0, c1, c2, c3, Option.bind_some, nF, eT, eF, bne_self_eq_false, Bool.not_true, Bool.not_false, cond_false, cond_true]
     ·rw [decide_eq_false h3] at c3
      simp (disch := omega) only [q2A, dF, c0, c1, c3, Option.bind_some, nF, eT, bne_self_eq_false, Bool.not_false, cond_true, cond_false]
    ·by_cases h3 : Q = List.replicate 16 0
     ·subst h3
      simp (disch := omega) only [q2A, dF, c0, c1, c2, Option.bind_some, nF, eT, eF, z16, beq_self_eq_true, bne_self_eq_false, Bool.not_true, Bool.not_false, cond_false, cond_true]
     ·have : (Q == List.replicate 16 0) = false := beq_false_of_ne h3
      simp (disch := omega) only [q2A, dF, c0, c1, Option.bind_some, nF, eT, eF, z16, this, bne_self_eq_false, Bool.not_false, cond_true, cond_false]
  ·rw [w4A h1] at c1
   rw [t6A (show ¬ e2A (k, L, Q) p from fun h => h1 h.1)]
   simp (disch := omega) only [q2A, dF, c0, c1, Option.bind_some, nF]
   rfl
 ·rw [w4A h0] at c0
  rw [t6A (show ¬ e2A (k, L, Q) p from fun h => h0 h.2.1.1)]
  simp (disch := omega) only [q2A, dF, c0, Option.bind_some, nT, cond_true]
end Go.Sq
namespace Go.Sq
open Go.Rx
def pre (w : List Int) : Nat → Int
 | 0 => 0
 | i + 1 => pre w i + w.getD i 0
def cum (w : List Int) : List Int := a5A (pre w) (w.length + 1)
theorem e4D {α : Type} (g : Nat → α) (n : Nat) : a5A g n ++ [g n] = a5A g (n + 1) := by
 simp [a5A, List.range_succ]
structure z6A (w : List Int) : Prop where
 one : 1 ≤ w.length
 few : w.length ≤ 256
 pos : ∀ i, i < w.length → 1 ≤ w.getD i 0
 tot : pre w w.length ≤ 16384
theorem v0D {w : List Int} (h : z6A w) : ∀ j i, i ≤ j → j ≤ w.length → pre w i + ((j : Int) - i) ≤ pre w j
  | 0, i, hi, _ => by have : i = 0 := by omega
                      subst this; omega
  | j + 1, i, hi, hj => by
    by_cases h1 : i = j + 1
    · subst h1; omega
    · have := v0D h j i (by omega) (by omega)
      have := h.pos j (by omega)
      simp only [pre]; omega
theorem s2C {w : List Int} (h : z6A w) {i : Nat} (hi : i ≤ w.length) : 0 ≤ pre w i ∧ pre w i ≤ 16384 := by
 have h1 := v0D h i 0 (by omega) hi
 have h2 := v0D h w.length i hi (Nat.le_refl _)
 have h3 := h.tot
 have : pre w 0 = 0 := rfl
 omega
theorem o3B (w : List Int) : (cum w).length = w.length + 1 := g6A _ _
theorem o4B {w : List Int} {i : Nat} (hi : i ≤ w.length) : (cum w).getD i 0 = pre w i := e0A _ _ _ _ (by omega)
theorem e5D {w : List Int} (h : z6A w) : okF (cum w) := by
 have := h.one; have := h.few
 refine ⟨by rw [o3B]; omega, by rw [o3B]; omega, by rw [o4B (by omega)]; rfl, ?_, fun i hi => ?_⟩
 ·rw [o3B, Nat.add_sub_cancel, o4B (Nat.le_refl _)]; exact h.tot
 ·rw [o3B] at hi
  rw [o4B (by omega), o4B (by omega)]
  have := h.pos i (by omega)
  simp only [pre]; omega
theorem u2E {w : List Int} (h : z6A w) : c2A (cum w) = pre w w.length := by
 rw [(r9A (e5D h)).1, o3B, Nat.add_sub_cancel, o4B (Nat.le_refl _)]
theorem g5G {g : Nat → Int} {i : Nat} (h : i < 1000) : h7B (a5A g (i + 1)) = some (g i) := by
 have := r4C (C := a5A g (i + 1)) (by rw [g6A]; omega) (by rw [g6A]; omega)
 rw [g6A, Nat.add_sub_cancel, e0A _ _ _ _ (Nat.lt_succ_self i)] at this
 exact this
theorem g6G {α : Type} {k n : Nat} (g : Nat → α) (h : n * k ≤ 140737488355328) : f2A k (a5A g n).length = true := n1B.2 (by rw [g6A]; exact h)
theorem v1D {w : List Int} (h : z6A w) : c9B w = some (cum w, 0) := by
 have h1 := h.one; have h2 := h.few
 have loop := b7A (f := d8B) (fun i => (w, w, (w.length : Int), (i : Int), [], a5A (pre w) (i + 1), ())) w.length (r := .inl (w, [], cum w, ())) (fun i hi => by
  have a := s2C h (show i ≤ w.length by omega)
  have b := s2C h (show i + 1 ≤ w.length by omega)
  have c := h.pos i hi
  have e : pre w i + w.getD i 0 = pre w (i + 1) := rfl
  have d : decide (w.getD i 0 > 16384 - pre w i) = false := decide_eq_false (by omega)
  simp (disch := omega) only [d8B, dT, dF, wT, Int.toNat_natCast, Option.bind_some, g5G (show i < 1000 by omega), a3A, e, d, cond_false, e4D, g6G (pre w) (show (i + 1 + 1) * 8 ≤ 140737488355328 by omega), cond_true]
  rfl) (by
  simp (disch := omega) only [d8B, dF]; rfl)
 have hroom : (decide ((0 : Int) ≤ 1) && decide (1 ≤ (w.length : Int) + 1) && f2A 8 ((w.length : Int) + 1).toNat) = true := by
  simp only [Bool.and_eq_true, decide_eq_true_eq, n1B]; omega
 have hrep : List.replicate 1 (0 : Int) = a5A (pre w) 1 := rfl
 simp (disch := omega) only [c9B, dF, a3A, hrep]
 refine (cT hroom).trans ?_
 rw [show a1A d8B (w, w, (w.length : Int), 0, [], a5A (pre w) 1, ()) = _ from loop]
 simp (disch := omega) only [Option.bind_some, eF]
theorem e6D {w : List Int} (h : z6A w) : s0B w = some (cum w, 0) := by
 have h1 := h.one; have h2 := h.few
 have loop := b7A (f := q4C) (fun i => (a5A (pre w) (i + 1), w, (w.length : Int), (i : Int), [], ())) w.length (r := .inl (cum w, [], ())) (fun i hi => by
  have a := s2C h (show i ≤ w.length by omega)
  have b := s2C h (show i + 1 ≤ w.length by omega)
  have c := h.pos i hi
  have e : pre w i + w.getD i 0 = pre w (i + 1) := rfl
  have d : decide (w.getD i 0 > 16384) = false := decide_eq_false (by omega)
  have l1 : ((i + 1 : Nat) : Int) - 1 = (i : Int) := by omega
  have g := e0A (pre w) (i + 1) i 0 (Nat.lt_succ_self i)
  simp (disch := omega) only [q4C, dT, dF, wT, Int.toNat_natCast, Option.bind_some, g6A, l1, a3A, g, e, d, cond_false, e4D, rT]
  rfl) (by
  simp (disch := omega) only [q4C, dF]; rfl)
 have d : decide ((w.length : Int) > 256) = false := decide_eq_false (by omega)
 have l1 : ((w.length + 1 : Nat) : Int) - 1 = (w.length : Int) := by omega
 have g := e0A (pre w) (w.length + 1) w.length 0 (Nat.lt_succ_self _)
 have r := s2C h (Nat.le_refl w.length)
 have d2 : decide (pre w w.length > 16384) = false := decide_eq_false (by omega)
 simp (disch := omega) only [s0B, eF, d, Option.bind_some, cond_false]
 rw [show a1A q4C ([0], w, (w.length : Int), 0, [], ()) = _ from loop]
 simp (disch := omega) only [Option.bind_some, cum, g6A, l1, a3A, wT, Int.toNat_natCast, g, d2, cond_false]
def e7D : List Int := [6, 9, 1]
def s3C : List Int := [1, 1, 2, 3, 5, 9, 16, 30, 60, 30, 16, 9, 5, 3, 2, 1]
def q6A : List Int := cum e7D
def w6A : List Int := cum s3C
theorem e8D : z6A e7D := ⟨by decide, by decide, by decide, by decide⟩
theorem e9D : z6A s3C := ⟨by decide, by decide, by decide, by decide⟩
theorem e9B : y2B = some q6A := by
 have := v1D e8D
 unfold e7D at this
 simp only [y2B, this, Option.bind_some]; rfl
theorem o5B : l1C = some q6A := by
 have := e6D e8D
 unfold e7D at this
 simp only [l1C, this, Option.bind_some]; rfl
theorem u3E : i8C = some w6A := by
 have := v1D e9D
 unfold s3C at this
 simp only [i8C, this, Option.bind_some]; rfl
theorem v2D : l2C = some w6A := by
 have := e6D e9D
 unfold s3C at this
 simp only [l2C, this, Option.bind_some]; rfl
theorem s4C : i7C = some o1A := by
 simp only [i7C, c9G, Option.bind_some]
def u7B : List Int := List.replicate 256 1
theorem u4E {i : Nat} (hi : i < 256) : u7B.getD i 0 = 1 := by
 unfold u7B
 rw [List.getD_eq_getElem?_getD, List.getElem?_replicate, if_pos hi]; rfl
theorem f0D : ∀ i, i ≤ 256 → pre u7B i = i
 | 0, _ => rfl
 | i + 1, h => by simp only [pre]; rw [f0D i (by omega), u4E (by omega)]; omega
theorem k3B : u7B.length = 256 := List.length_replicate
theorem u5E : z6A u7B := ⟨by rw [k3B]; omega, by rw [k3B]; omega, fun i hi => by rw [k3B] at hi; rw [u4E hi]; omega, by rw [k3B, f0D _ (by omega)]; decide⟩
theorem u6E : cum u7B = o1A := by
 refine p3A 0 (by rw [o3B, k3B, t8B]) fun i hi => ?_
 rw [o3B, k3B] at hi
 rw [o4B (by rw [k3B]; omega), f0D i (by omega), r8C (by omega)]
theorem g7G : b1D 256 = some (o1A, 0) := by
 have a1 := b7A (f := q5C) (fun i => (List.replicate i 1, 256, (i : Int), [], ())) 256 (r := (u7B, [], ())) (fun i hi => by
  have e : List.replicate i (1 : Int) ++ [1] = List.replicate (i + 1) 1 := by rw [List.replicate_succ']
  have r : f2A 8 (List.replicate (i + 1) (1 : Int)).length = true := n1B.2 (by rw [List.length_replicate]; omega)
  simp (disch := omega) only [q5C, dT, e, r, cond_true, d2A]) (by simp (disch := omega) only [q5C, dF]; rfl)
 have n := e6D u5E
 rw [u6E] at n
 have d : decide ((256 : Int) > 256) = false := by decide
 simp (disch := omega) only [b1D, dF, d, Option.bind_some, cond_false]
 rw [show a1A q5C ([], 256, 0, [], ()) = _ from a1]
 simp only [Option.bind_some, n]
theorem s5C : l3C = some o1A := by
 simp only [l3C, g7G, Option.bind_some]
def smW (m : Int) (i : Nat) : Int := (if 2 * m - i < (i : Int) then 2 * m - i else (i : Int)) + 1
def f0B (m : Int) : List Int := a5A (smW m) (2 * m + 1).toNat
def j5A (m : Int) : List Int := cum (f0B m)
theorem d0C {m : Int} : (f0B m).length = (2 * m + 1).toNat := g6A _ _
theorem v3D {m : Int} (h1 : m ≤ 127) {i : Nat} (hi : i < (2 * m + 1).toNat) : 1 ≤ smW m i ∧ smW m i ≤ 128 := by
 unfold smW; split <;> omega
theorem u7E {m : Int} (h0 : 0 ≤ m) : ∀ i, i ≤ (2 * m + 1).toNat → 2 * pre (f0B m) i = if (i : Int) ≤ m + 1 then (i : Int) * (i + 1) else 2 * ((m + 1) * (m + 1)) - (2 * m + 1 - i) * (2 * m + 2 - i)
 | 0, _ => by
  have : ((0 : Nat) : Int) ≤ m + 1 := by omega
  rw [if_pos this]; rfl
 | i + 1, hi => by
  have ih := u7E h0 i (by omega)
  have g : (f0B m).getD i 0 = smW m i := e0A _ _ _ _ (by omega)
  simp only [pre]
  rw [g, Int.mul_add, ih]
  unfold smW
  have e1 : ((i + 1 : Nat) : Int) = (i : Int) + 1 := by omega
  rw [e1]
  generalize (i : Int) = x at *
  by_cases c1 : x ≤ m
  ·rw [if_pos (by omega), if_neg (by omega), if_pos (by omega)]
   have : x * (x + 1) + 2 * (x + 1) = (x + 1) * (x + 1 + 1) := by
    simp only [Int.add_mul, Int.mul_add]; omega
   omega
  ·by_cases c2 : x = m + 1
   ·subst c2
    rw [if_pos (by omega), if_pos (by omega), if_neg (by omega)]
    have e2 : 2 * m + 1 - (m + 1 + 1) = m - 1 := by omega
    have e3 : 2 * m + 2 - (m + 1 + 1) = m := by omega
    rw [e2, e3]
    simp only [Int.add_mul, Int.mul_add, Int.sub_mul]; omega
   ·rw [if_neg (by omega), if_pos (by omega), if_neg (by omega)]
    have e2 : 2 * m + 1 - (x + 1) = 2 * m - x := by omega
    have e3 : 2 * m + 2 - (x + 1) = 2 * m - x + 1 := by omega
    have e4 : 2 * m + 1 - x = (2 * m - x) + 1 := by omega
    have e5 : 2 * m + 2 - x = (2 * m - x) + 2 := by omega
    rw [e2, e3, e4, e5]
    generalize 2 * m - x = y
    simp only [Int.add_mul, Int.mul_add]; omega
theorem u8E {m : Int} (h0 : 0 ≤ m) : pre (f0B m) (f0B m).length = (m + 1) * (m + 1) := by
 have := u7E h0 (2 * m + 1).toNat (Nat.le_refl _)
 rw [d0C]
 have e : (((2 * m + 1).toNat : Nat) : Int) = 2 * m + 1 := by omega
 rw [e] at this
 split at this
 ·have : m = 0 := by omega
  subst this; rfl
 ·simp only [Int.sub_self, Int.zero_mul, Int.sub_zero] at this
  omega
theorem f1D {m : Int} (h0 : 0 ≤ m) (h1 : m ≤ 127) : z6A (f0B m) := by
 refine ⟨by rw [d0C]; omega, by rw [d0C]; omega, fun i hi => ?_, ?_⟩
 ·rw [d0C] at hi
  unfold f0B
  rw [e0A _ _ _ _ hi]
  exact (v3D h1 hi).1
 ·rw [u8E h0]
  have : (m + 1) * (m + 1) ≤ 128 * 128 := Int.mul_le_mul (by omega) (by omega) (by omega) (by omega)
  omega
theorem v4D {m : Int} (h0 : 0 ≤ m) (h1 : m ≤ 127) : i9C m = some (j5A m) := by
 have hn := v1D (f1D h0 h1)
 have hN : (((2 * m + 1).toNat : Nat) : Int) = 2 * m + 1 := by omega
 have hz : (List.replicate (2 * m + 1).toNat (0 : Int)).length = (2 * m + 1).toNat := by simp
 have a1 := b7A (f := n9C) (fun i => (m, b4A (smW m) i (List.replicate (2 * m + 1).toNat 0), 2 * m + 1, (i : Int), [], ())) (2 * m + 1).toNat (r := (f0B m, [], ())) (fun i hi => by
  have hl : (b4A (smW m) i (List.replicate (2 * m + 1).toNat (0 : Int))).length = (2 * m + 1).toNat := by rw [q4A, hz]
  have hr := v3D h1 hi
  have e : (if 2 * m - (i : Int) < (i : Int) then 2 * m - (i : Int) else (i : Int)) + 1 = smW m i := rfl
  simp (disch := omega) only [n9C, dT, hl, wT, Int.toNat_natCast, a3A, e, k3A]
  rfl) (by
  rw [l4A hz]
  simp (disch := omega) only [n9C, dF]; rfl)
 have hroom : (decide ((0 : Int) ≤ 2 * m + 1) && decide (2 * m + 1 ≤ 2 * m + 1) && f2A 8 (2 * m + 1).toNat) = true := by
  simp only [Bool.and_eq_true, decide_eq_true_eq, n1B]; omega
 simp (disch := omega) only [i9C, a3A, hz, hN]
 refine (cT hroom).trans ?_
 rw [show a1A n9C (m, List.replicate (2 * m + 1).toNat 0, 2 * m + 1, 0, [], ()) = _ from a1]
 simp only [Option.bind_some, hn]; rfl
theorem v5D {m : Int} (h0 : 0 ≤ m) (h1 : m ≤ 127) : l4C m = some (j5A m) := by
 have hn := e6D (f1D h0 h1)
 have a1 := b7A (f := q6C) (fun i => (m, a5A (smW m) i, -m + (i : Int), [], ())) (2 * m + 1).toNat (r := (f0B m, [], ())) (fun i hi => by
  have hr := v3D h1 hi
  have e : m + 1 - (if -m + (i : Int) < 0 - (-m + (i : Int)) then 0 - (-m + (i : Int)) else -m + (i : Int)) = smW m i := by
   unfold smW; split <;> split <;> omega
  have e2 : -m + (i : Int) + 1 = -m + ((i + 1 : Nat) : Int) := by omega
  simp (disch := omega) only [q6C, dT, a3A, e, e2, e4D, g6A, rT]) (by
  have : ¬ (-m + (((2 * m + 1).toNat : Nat) : Int) ≤ m) := by omega
  simp (disch := omega) only [q6C, dF]; rfl)
 have e : (0 : Int) - m = -m + ((0 : Nat) : Int) := by omega
 simp (disch := omega) only [l4C, a3A]
 rw [e, show a1A q6C (m, [], -m + ((0 : Nat) : Int), [], ()) = _ from a1]
 simp only [Option.bind_some, hn]; rfl
end Go.Sq
