/- Parts of a proof: evaluation of Go code over typed values, and what it computes. -/
import Derived.Test.YtojdkfikpacakaaGreatL2
import Derived.KernelRfl
set_option linter.unusedSimpArgs false
set_option linter.unusedVariables false
set_option linter.unusedSectionVars false
namespace Go.Sq
open Go.Rx
theorem iter_n {X R : Type} {f : X → Option (X ⊕ R)} {x : X} {r : R} : ∀ n, iterN f n x = some r → iter f x = some r
 | 0, h => by cases h
 | n + 1, h => by
  simp only [iterN] at h
  cases hf : f x with
  | none => rw [hf] at h; cases h
  | some z =>
   rw [hf] at h
   cases z with
   | inl y => rw [iter_inl hf]; exact iter_n n h
   | inr s => rw [iter_inr hf]; exact h
theorem iter_to {X R : Type} {f : X → Option (X ⊕ R)} (st : Nat → X) : ∀ n, (∀ i, i < n → f (st i) = some (.inl (st (i + 1)))) → iter f (st 0) = iter f (st n)
 | 0, _ => rfl
 | n + 1, h => (iter_to st n fun i hi => h i (by omega)).trans (iter_inl (h n (by omega)))
theorem iter_count {X R : Type} {f : X → Option (X ⊕ R)} (st : Nat → X) (n : Nat) {r : R} (h : ∀ i, i < n → f (st i) = some (.inl (st (i + 1)))) (h' : f (st n) = some (.inr r)) : iter f (st 0) = some r :=
 (iter_to st n h).trans (iter_inr h')
theorem backN_to {X R : Type} {f : Nat → X → Option (X ⊕ R)} (st : Nat → X) : ∀ n, (∀ i, i < n → f i (st (i + 1)) = some (.inl (st i))) → backN f n (st n) = some (.inl (st 0))
 | 0, _ => rfl
 | n + 1, h => by
  simp only [backN]
  rw [h n (by omega)]
  exact backN_to st n fun i hi => h i (by omega)
theorem first_not (p : Nat → Prop) [DecidablePred p] : ∀ n, (∀ i, i < n → p i) ∨ ∃ k, k < n ∧ (∀ i, i < k → p i) ∧ ¬ p k
 | 0 => .inl fun i hi => absurd hi (Nat.not_lt_zero i)
 | n + 1 => by
  rcases first_not p n with h | ⟨k, h1, h2, h3⟩
  ·by_cases hn : p n
   ·exact .inl fun i hi => (Nat.lt_succ_iff_lt_or_eq.1 hi).elim (h i) fun e => e ▸ hn
   ·exact .inr ⟨n, Nat.lt_succ_self n, h, hn⟩
  ·exact .inr ⟨k, Nat.lt_succ_of_lt h1, h2, h3⟩
theorem wrap_succ {i : Nat} (h : i < 9000000000000000000) : IntKind.i64.wrap ((i : Int) + 1) = ((i + 1 : Nat) : Int) := by
 rw [wrap_i64 (by omega) (by omega)]; rfl
section
variable {α : Type}
def fillN (g : Nat → α) : Nat → List α → List α
 | 0, l => l
 | n + 1, l => (fillN g n l).set n (g n)
theorem fillN_len (g : Nat → α) : ∀ n l, (fillN g n l).length = l.length
 | 0, _ => rfl
 | n + 1, l => by simp only [fillN, List.length_set, fillN_len g n l]
theorem set_getD (l : List α) (i k : Nat) (v d : α) (hi : i < l.length) : (l.set i v).getD k d = if k = i then v else l.getD k d := by
 simp only [List.getD_eq_getElem?_getD]
 by_cases h : k = i
 ·subst h; rw [if_pos rfl, List.getElem?_set_self hi]; rfl
 ·rw [if_neg h, List.getElem?_set_ne (Ne.symm h)]
theorem fillN_get (g : Nat → α) (d : α) : ∀ n (l : List α) i, n ≤ l.length → (fillN g n l).getD i d = if i < n then g i else l.getD i d
 | 0, l, i, _ => rfl
 | n + 1, l, i, h => by
  simp only [fillN]
  rw [set_getD _ _ _ _ _ (by rw [fillN_len]; omega), fillN_get g d n l i (by omega)]
  by_cases h1 : i = n
  ·subst h1; rw [if_pos rfl, if_pos (by omega)]
  ·rw [if_neg h1]
   by_cases h2 : i < n
   ·rw [if_pos h2, if_pos (by omega)]
   ·rw [if_neg h2, if_neg (by omega)]
theorem list_ext_getD {l m : List α} (d : α) (h : l.length = m.length) (h' : ∀ i, i < l.length → l.getD i d = m.getD i d) : l = m := by
 apply List.ext_getElem h
 intro i h1 h2
 have := h' i h1
 simpa [List.getD_eq_getElem?_getD, List.getElem?_eq_getElem h1, List.getElem?_eq_getElem h2] using this
def tab6 (g : Nat → α) (n : Nat) : List α := (List.range n).map g
theorem tab6_len (g : Nat → α) (n : Nat) : (tab6 g n).length = n := by simp [tab6]
theorem tab6_get (g : Nat → α) (n i : Nat) (d : α) (h : i < n) : (tab6 g n).getD i d = g i := by
 simp [tab6, List.getD_eq_getElem?_getD, List.getElem?_map, List.getElem?_range h]
theorem fillN_all (g : Nat → α) (l : List α) : fillN g l.length l = tab6 g l.length := by
 cases l with
 | nil => rfl
 | cons d l0 =>
  refine list_ext_getD d (by rw [fillN_len, tab6_len]) fun i hi => ?_
  rw [fillN_len] at hi
  rw [fillN_get g d _ _ _ (Nat.le_refl _), if_pos hi, tab6_get _ _ _ _ hi]
theorem fillN_eq {g : Nat → α} {l : List α} {n : Nat} (h : l.length = n) : fillN g n l = tab6 g n := by subst h; exact fillN_all g l
theorem eq_tab6 {l : List α} {n : Nat} (d : α) (h : l.length = n) : l = tab6 (fun i => l.getD i d) n :=
 list_ext_getD d (by rw [tab6_len, h]) fun i hi => by rw [tab6_get _ _ _ _ (by omega)]
end
theorem fill_step {α : Type} {g : Nat → α} {i : Nat} {l : List α} : fillN g (i + 1) l = (fillN g i l).set i (g i) := rfl
def lv (l : List Int) : Prop := ∀ i, i < 6 → 0 ≤ l.getD i 0 ∧ l.getD i 0 ≤ 255
instance (l : List Int) : Decidable (lv l) := by unfold lv; infer_instance
noncomputable def ckL (l : List Int) : Int := if lv l then 0 else 1
def clampL (v : Int) : Int := if 0 < (if 255 < v then 255 else v) then (if 255 < v then 255 else v) else 0
theorem clampL_iff (v : Int) : clampL v = v ↔ 0 ≤ v ∧ v ≤ 255 := by unfold clampL; split <;> split <;> omega
theorem bands_Check_eq {l : List Int} (hl : l.length = 6) : g_bands_Check l = some (ckL l) := by
 have h := iter_count (f := g_bands_Check_r1) (fun i => (l, (i : Int), l, fillN (fun i => clampL (l.getD i 0)) i l, ())) 6 (r := (l, fillN (fun i => clampL (l.getD i 0)) 6 l, ())) (fun i hi => by
  simp (disch := omega) only [g_bands_Check_r1, dT, wT, Int.toNat_natCast, wrap_succ, fill_step, clampL]) (by
  simp (disch := omega) only [g_bands_Check_r1, dF])
 unfold g_bands_Check
 rw [show iter g_bands_Check_r1 (l, 0, l, l, ()) = _ from h]
 simp only [Option.bind_some]
 have e : (fillN (fun i => clampL (l.getD i 0)) 6 l == l) = decide (lv l) := by
  rw [Bool.eq_iff_iff]
  simp only [beq_iff_eq, decide_eq_true_eq]
  constructor
  ·intro h i hi
   have : (fillN (fun i => clampL (l.getD i 0)) 6 l).getD i 0 = l.getD i 0 := by rw [h]
   rw [fillN_get _ _ _ _ _ (by omega), if_pos hi] at this
   exact (clampL_iff _).1 this
  ·intro h
   refine list_ext_getD 0 (fillN_len _ _ _) fun i hi => ?_
   rw [fillN_len, hl] at hi
   rw [fillN_get _ _ _ _ _ (by omega), if_pos hi]
   exact (clampL_iff _).2 (h i hi)
 rw [e]; unfold ckL
 by_cases h : lv l <;> simp [h]
theorem r08_Check_eq {l : List Int} (hl : l.length = 6) : g_r08_Check l = some (ckL l) := by
 unfold g_r08_Check
 have step : ∀ i, i < 6 → 0 ≤ l.getD i 0 ∧ l.getD i 0 ≤ 255 → g_r08_Check_r1 (l, (i : Int), ()) = some (.inl (l, ((i + 1 : Nat) : Int), ())) := fun i hi h => by
  simp (disch := omega) only [g_r08_Check_r1, dT, dF, wT, Int.toNat_natCast, Option.bind_some, decide_eq_false, cond_false, wrap_succ]
 rcases first_not (fun i => 0 ≤ l.getD i 0 ∧ l.getD i 0 ≤ 255) 6 with h | ⟨k, hk, h, h'⟩
 ·rw [show iter g_r08_Check_r1 (l, 0, ()) = some (.inl ()) from iter_count (fun i => (l, (i : Int), ())) 6 (fun i hi => step i hi (h i hi)) (by simp (disch := omega) only [g_r08_Check_r1, dF])]
  simp only [Option.bind_some]
  unfold ckL; rw [if_pos (show lv l from h)]
 ·rw [show iter g_r08_Check_r1 (l, 0, ()) = some (.inr (1, ())) from iter_count (fun i => (l, (i : Int), ())) k (fun i hi => step i (by omega) (h i hi)) (by
   by_cases h0 : l.getD k 0 < 0
   ·simp (disch := omega) only [g_r08_Check_r1, dT, wT, Int.toNat_natCast, Option.bind_some, cond_true]
   ·have : decide (l.getD k 0 > 255) = true := decide_eq_true (by omega)
    simp (disch := omega) only [g_r08_Check_r1, dT, dF, wT, Int.toNat_natCast, Option.bind_some, this, cond_true])]
  simp only [Option.bind_some]
  unfold ckL; rw [if_neg fun hl => h' (hl k hk)]
theorem ckL_pos {l : List Int} (h : lv l) : ckL l = 0 := if_pos h
theorem ckL_neg {l : List Int} (h : ¬ lv l) : ckL l = 1 := if_neg h
def nearP (l p : List Int) : Prop := lv l ∧ lv p ∧ ∀ i, i < 6 → -8 ≤ l.getD i 0 - p.getD i 0 ∧ l.getD i 0 - p.getD i 0 ≤ 7
instance (l p : List Int) : Decidable (nearP l p) := by unfold nearP; infer_instance
theorem frame_Near_eq {l p : List Int} (hl : l.length = 6) (hp : p.length = 6) : g_frame_Near l p = some (decide (nearP l p)) := by
 have c1 := bands_Check_eq hl
 have c2 := bands_Check_eq hp
 by_cases h1 : lv l
 ·by_cases h2 : lv p
  ·rw [ckL_pos h1] at c1; rw [ckL_pos h2] at c2
   have step : ∀ i, i < 6 → -8 ≤ l.getD i 0 - p.getD i 0 ∧ l.getD i 0 - p.getD i 0 ≤ 7 → g_frame_Near_r1 ((i : Int), l, p, ()) = some (.inl (((i + 1 : Nat) : Int), l, p, ())) := fun i hi h => by
    have a1 := h1 i hi; have a2 := h2 i hi
    have : decide (l.getD i 0 - p.getD i 0 > 7) = false := decide_eq_false (by omega)
    simp (disch := omega) only [g_frame_Near_r1, dT, dF, wT, Int.toNat_natCast, Option.bind_some, wrap_i64, this, cond_false]
    rfl
   simp (disch := omega) only [g_frame_Near, c1, c2, Option.bind_some, nF, bne_self_eq_false, cond_false]
   rcases first_not (fun i => -8 ≤ l.getD i 0 - p.getD i 0 ∧ l.getD i 0 - p.getD i 0 ≤ 7) 6 with h | ⟨k, hk, h, h'⟩
   ·rw [show iter g_frame_Near_r1 (0, l, p, ()) = some (.inl ()) from iter_count (fun i => ((i : Int), l, p, ())) 6 (fun i hi => step i hi (h i hi)) (by simp (disch := omega) only [g_frame_Near_r1, dF])]
    simp only [Option.bind_some]
    rw [decide_eq_true (show nearP l p from ⟨h1, h2, h⟩)]
   ·rw [show iter g_frame_Near_r1 (0, l, p, ()) = some (.inr (false, ())) from iter_count (fun i => ((i : Int), l, p, ())) k (fun i hi => step i (by omega) (h i hi)) (by
     have a1 := h1 k hk; have a2 := h2 k hk
     by_cases h0 : l.getD k 0 - p.getD k 0 < -8
     ·simp (disch := omega) only [g_frame_Near_r1, dT, wT, Int.toNat_natCast, Option.bind_some, wrap_i64, cond_true]
     ·have : decide (l.getD k 0 - p.getD k 0 > 7) = true := decide_eq_true (by omega)
      simp (disch := omega) only [g_frame_Near_r1, dT, dF, wT, Int.toNat_natCast, Option.bind_some, wrap_i64, this, cond_true])]
    simp only [Option.bind_some]
    rw [decide_eq_false (show ¬ nearP l p from fun hn => h' (hn.2.2 k hk))]
  ·rw [ckL_pos h1] at c1; rw [ckL_neg h2] at c2
   rw [decide_eq_false (show ¬ nearP l p from fun hn => h2 hn.2.1)]
   simp (disch := omega) only [g_frame_Near, c1, c2, Option.bind_some, nF]
   rfl
 ·rw [ckL_neg h1] at c1
  rw [decide_eq_false (show ¬ nearP l p from fun hn => h1 hn.1)]
  simp (disch := omega) only [g_frame_Near, c1, Option.bind_some, nT]
  rfl
end Go.Sq
namespace Go.Sq
open Go.Rx
def mx (a b : Int) : Int := if a < b then b else a
theorem mx_def (a b : Int) : (if a < b then b else a) = mx a b := rfl
theorem mx_le (a b : Int) : a ≤ mx a b ∧ b ≤ mx a b ∧ (mx a b = a ∨ mx a b = b) := by unfold mx; split <;> omega
def spF (l : List Int) : Nat → Int
 | 0 => 0
 | b + 1 => mx (spF l b) (l.getD b 0) - 12
def spB (l : List Int) : Nat → Int
 | 0 => 0
 | k + 1 => mx (spB l k) (l.getD (5 - k) 0) - 12
def mF (l : List Int) (b : Nat) : Int := mx 0 (spF l b - 8)
def mB (l : List Int) (b : Nat) : Int := mx (mF l b) (spB l (5 - b) - 8)
def maskS (l : List Int) : List Int := tab6 (mB l) 6
theorem spF_range {l : List Int} (h : lv l) : ∀ b : Nat, b ≤ 6 → -12 * (b : Int) ≤ spF l b ∧ spF l b ≤ 255
 | 0, _ => by simp [spF]
 | b + 1, hb => by
  have := spF_range h b (by omega)
  have h2 := h b (by omega)
  have h3 := mx_le (spF l b) (l.getD b 0)
  simp only [spF]
  omega
theorem spB_range {l : List Int} (h : lv l) : ∀ b : Nat, b ≤ 6 → -12 * (b : Int) ≤ spB l b ∧ spB l b ≤ 255
 | 0, _ => by simp [spB]
 | b + 1, hb => by
  have := spB_range h b (by omega)
  have h2 := h (5 - b) (by omega)
  have h3 := mx_le (spB l b) (l.getD (5 - b) 0)
  simp only [spB]
  omega
theorem mB_range {l : List Int} (h : lv l) {b : Nat} (hb : b < 6) : 0 ≤ mB l b ∧ mB l b ≤ 255 := by
 have h1 := spF_range h b (by omega)
 have h2 := spB_range h (5 - b) (by omega)
 unfold mB mF
 have h3 := mx_le 0 (spF l b - 8)
 have h4 := mx_le (mx 0 (spF l b - 8)) (spB l (5 - b) - 8)
 omega
theorem rep0 (n i : Nat) : (List.replicate n (0 : Int)).getD i 0 = 0 := by
 simp only [List.getD_eq_getElem?_getD, List.getElem?_replicate]; split <;> rfl
theorem bands_Mask_eq {l : List Int} (hl : l.length = 6) : g_bands_Mask l = some (if lv l then (maskS l, 0) else (List.replicate 6 0, 1)) := by
 have c1 := bands_Check_eq hl
 by_cases h : lv l
 ·rw [ckL_pos h] at c1
  rw [if_pos h]
  have a1 := iter_count (f := g_bands_Mask_r1) (fun b => (0, (b : Int), l, fillN (mF l) b (List.replicate 6 0), spF l b, ())) 6 (r := (0, l, fillN (mF l) 6 (List.replicate 6 0), spF l 6, ())) (fun i hi => by
   have h1 := spF_range h i (by omega)
   have h2 := h i hi
   have h3 := mx_le (spF l i) (l.getD i 0)
   have e : (fillN (mF l) i (List.replicate 6 0)).getD i 0 = 0 := by
    rw [fillN_get _ _ _ _ _ (by simp; omega), if_neg (by omega), rep0]
   simp (disch := omega) only [g_bands_Mask_r1, dT, wT, Int.toNat_natCast, wrap_succ, mx_def, e, wrap_i64]
   rfl) (by simp (disch := omega) only [g_bands_Mask_r1, dF])
  have e6 : fillN (mF l) 6 (List.replicate 6 0) = tab6 (mF l) 6 := fillN_eq (by simp)
  rw [e6] at a1
  have a2 := backN_to (f := g_bands_Mask_r2) (fun b => (l, tab6 (fun j => if j < b then mF l j else mB l j) 6, spB l (6 - b), ())) 6 (fun i hi => by
   have h1 := spB_range h (5 - i) (by omega)
   have h2 := h i hi
   have h3 := mx_le (spB l (5 - i)) (l.getD i 0)
   have e1 : 6 - (i + 1) = 5 - i := by omega
   have e2 : 6 - i = (5 - i) + 1 := by omega
   have e3 : 5 - (5 - i) = i := by omega
   have e : (tab6 (fun j => if j < i + 1 then mF l j else mB l j) 6).getD i 0 = mF l i := by
    rw [tab6_get _ _ _ _ hi, if_pos (by omega)]
   have es : (tab6 (fun j => if j < i + 1 then mF l j else mB l j) 6).set i (mB l i) = tab6 (fun j => if j < i then mF l j else mB l j) 6 := by
    refine list_ext_getD 0 (by rw [List.length_set, tab6_len, tab6_len]) fun j hj => ?_
    rw [List.length_set, tab6_len] at hj
    rw [set_getD _ _ _ _ _ (by rw [tab6_len]; exact hi), tab6_get _ _ _ _ hj, tab6_get _ _ _ _ hj]
    by_cases h5 : j = i
    ·subst h5; rw [if_pos rfl, if_neg (by omega)]
    ·rw [if_neg h5]
     by_cases h6 : j < i
     ·rw [if_pos h6, if_pos (by omega)]
     ·rw [if_neg h6, if_neg (by omega)]
   simp (disch := omega) only [g_bands_Mask_r2, wT, Int.toNat_natCast, mx_def, e1, e, wrap_i64]
   rw [e2]
   simp only [spB, e3]
   rw [show mx (mF l i) (spB l (5 - i) - 8) = mB l i from rfl, es])
  have e0 : tab6 (fun j => if j < 6 then mF l j else mB l j) 6 = tab6 (mF l) 6 := by
   refine list_ext_getD 0 (by rw [tab6_len, tab6_len]) fun j hj => ?_
   rw [tab6_len] at hj
   rw [tab6_get _ _ _ _ hj, tab6_get _ _ _ _ hj, if_pos hj]
  simp only [e0] at a2
  simp (disch := omega) only [g_bands_Mask, c1, Option.bind_some, nF]
  rw [show iter g_bands_Mask_r1 (0, 0, l, List.replicate 6 0, 0, ()) = _ from a1]
  simp only [Option.bind_some]
  rw [show backN g_bands_Mask_r2 6 (l, tab6 (mF l) 6, 0, ()) = _ from a2]
  rfl
 ·rw [ckL_neg h] at c1
  rw [if_neg h]
  simp (disch := omega) only [g_bands_Mask, c1, Option.bind_some, nT]
def away (b c : Nat) : Int := mx ((b : Int) - c) ((c : Int) - b)
def rmS (l : List Int) (b : Nat) : Nat → Int
 | 0 => 0
 | c + 1 => if away b c > 0 then mx (rmS l b c) (l.getD c 0 - 12 * away b c - 8) else rmS l b c
theorem away_range {b c : Nat} (hb : b < 6) (hc : c < 6) : 0 ≤ away b c ∧ away b c ≤ 5 := by
 have := mx_le ((b : Int) - c) ((c : Int) - b)
 unfold away; omega
theorem rmS_range {l : List Int} (h : lv l) {b : Nat} (hb : b < 6) : ∀ c, c ≤ 6 → 0 ≤ rmS l b c ∧ rmS l b c ≤ 255
 | 0, _ => by simp [rmS]
 | c + 1, hc => by
  have := rmS_range h hb c (by omega)
  have h2 := h c (by omega)
  have h4 := away_range hb (show c < 6 by omega)
  have h3 := mx_le (rmS l b c) (l.getD c 0 - 12 * away b c - 8)
  simp only [rmS]; split <;> omega
theorem mx_iff {a b M : Int} : mx a b ≤ M ↔ a ≤ M ∧ b ≤ M := by unfold mx; split <;> omega
theorem rmS_le {l : List Int} {b : Nat} (hb : b < 6) {M : Int} : ∀ n, n ≤ 6 → (rmS l b n ≤ M ↔ 0 ≤ M ∧ ∀ c, c < n → c ≠ b → l.getD c 0 - 12 * away b c - 8 ≤ M)
 | 0, _ => by
  simp only [rmS]
  exact ⟨fun h => ⟨h, fun c hc => absurd hc (Nat.not_lt_zero c)⟩, fun h => h.1⟩
 | n + 1, hn => by
  have ih := rmS_le (l := l) hb (M := M) n (by omega)
  have ha : away b n > 0 ↔ n ≠ b := by
   have := mx_le ((b : Int) - n) ((n : Int) - b)
   unfold away; omega
  simp only [rmS]
  split
  ·rename_i h
   rw [mx_iff, ih]
   constructor
   ·rintro ⟨⟨h0, h1⟩, h2⟩
    refine ⟨h0, fun c hc hcb => ?_⟩
    by_cases hcn : c = n
    ·subst hcn; exact h2
    ·exact h1 c (by omega) hcb
   ·rintro ⟨h0, h1⟩
    exact ⟨⟨h0, fun c hc => h1 c (by omega)⟩, h1 n (by omega) (ha.1 h)⟩
  ·rename_i h
   rw [ih]
   constructor
   ·rintro ⟨h0, h1⟩
    refine ⟨h0, fun c hc hcb => ?_⟩
    by_cases hcn : c = n
    ·subst hcn; exact absurd (ha.2 hcb) h
    ·exact h1 c (by omega) hcb
   ·rintro ⟨h0, h1⟩
    exact ⟨h0, fun c hc => h1 c (by omega)⟩
theorem spF_le {l : List Int} : ∀ (b : Nat) {M : Int}, spF l b ≤ M ↔ -12 * (b : Int) ≤ M ∧ ∀ c, c < b → l.getD c 0 - 12 * ((b : Int) - c) ≤ M
 | 0, M => by
  simp only [spF]
  exact ⟨fun h => ⟨by omega, fun c hc => absurd hc (Nat.not_lt_zero c)⟩, fun h => by have := h.1; omega⟩
 | b + 1, M => by
  simp only [spF]
  rw [show mx (spF l b) (l.getD b 0) - 12 ≤ M ↔ mx (spF l b) (l.getD b 0) ≤ M + 12 by omega, mx_iff, spF_le b]
  constructor
  ·rintro ⟨⟨h0, h1⟩, h2⟩
   refine ⟨by omega, fun c hc => ?_⟩
   by_cases hcn : c = b
   ·subst hcn; omega
   ·have := h1 c (by omega); omega
  ·rintro ⟨h0, h1⟩
   refine ⟨⟨by omega, fun c hc => ?_⟩, ?_⟩
   ·have := h1 c (by omega); omega
   ·have := h1 b (by omega); omega
theorem spB_le {l : List Int} : ∀ (k : Nat) {M : Int}, k ≤ 6 → (spB l k ≤ M ↔ -12 * (k : Int) ≤ M ∧ ∀ c, c < 6 → 5 < c + k → l.getD c 0 - 12 * ((c : Int) + k - 5) ≤ M)
 | 0, M, _ => by
  simp only [spB]
  exact ⟨fun h => ⟨by omega, fun c hc h2 => absurd h2 (by omega)⟩, fun h => by have := h.1; omega⟩
 | k + 1, M, hk => by
  simp only [spB]
  rw [show mx (spB l k) (l.getD (5 - k) 0) - 12 ≤ M ↔ mx (spB l k) (l.getD (5 - k) 0) ≤ M + 12 by omega, mx_iff, spB_le k (by omega)]
  constructor
  ·rintro ⟨⟨h0, h1⟩, h2⟩
   refine ⟨by omega, fun c hc h3 => ?_⟩
   by_cases hcn : c = 5 - k
   ·subst hcn; omega
   ·have := h1 c (by omega) (by omega); omega
  ·rintro ⟨h0, h1⟩
   refine ⟨⟨by omega, fun c hc h3 => ?_⟩, ?_⟩
   ·have := h1 c (by omega) (by omega); omega
   ·have := h1 (5 - k) (by omega) (by omega); omega
theorem mB_le {l : List Int} {b : Nat} (hb : b < 6) {M : Int} : mB l b ≤ M ↔ 0 ≤ M ∧ ∀ c, c < 6 → c ≠ b → l.getD c 0 - 12 * away b c - 8 ≤ M := by
 unfold mB mF
 rw [mx_iff, mx_iff, show spF l b - 8 ≤ M ↔ spF l b ≤ M + 8 by omega, show spB l (5 - b) - 8 ≤ M ↔ spB l (5 - b) ≤ M + 8 by omega, spF_le, spB_le _ (by omega)]
 have ha : ∀ c : Nat, (c < b → away b c = (b : Int) - c) ∧ (b < c → away b c = (c : Int) - b) := fun c => by
  have := mx_le ((b : Int) - c) ((c : Int) - b)
  unfold away; omega
 constructor
 ·rintro ⟨⟨h0, h1, h2⟩, h3, h4⟩
  refine ⟨h0, fun c hc hcb => ?_⟩
  rcases Nat.lt_or_gt_of_ne hcb with h | h
  ·have := h2 c h; rw [(ha c).1 h]; omega
  ·have := h4 c hc (by omega); rw [(ha c).2 h]; omega
 ·rintro ⟨h0, h1⟩
  refine ⟨⟨h0, by omega, fun c hc => ?_⟩, by omega, fun c hc h3 => ?_⟩
  ·have := h1 c (by omega) (by omega); rw [(ha c).1 hc] at this; omega
  ·have := h1 c hc (by omega); rw [(ha c).2 (by omega)] at this; omega
theorem rmS_eq {l : List Int} {b : Nat} (hb : b < 6) : rmS l b 6 = mB l b :=
 Int.le_antisymm ((rmS_le hb 6 (by omega)).2 ((mB_le hb).1 (Int.le_refl _))) ((mB_le hb).2 ((rmS_le hb 6 (by omega)).1 (Int.le_refl _)))
theorem r08_Mask_eq {l : List Int} (hl : l.length = 6) : g_r08_Mask l = some (if lv l then (maskS l, 0) else (List.replicate 6 0, 1)) := by
 have c1 := r08_Check_eq hl
 by_cases h : lv l
 ·rw [ckL_pos h] at c1
  rw [if_pos h]
  have inner : ∀ b : Nat, b < 6 → ∀ m0, iter g_r08_Mask_r1 ((b : Int), (b : Int), l, 0, l, m0, fillN (mB l) b (List.replicate 6 0), ()) = some ((b : Int), l, m0, fillN (mB l) (b + 1) (List.replicate 6 0), ()) := fun b hb m0 => by
   have hlen : (fillN (mB l) b (List.replicate 6 (0 : Int))).length = 6 := by rw [fillN_len]; simp
   have := iter_count (f := g_r08_Mask_r1) (fun c => ((b : Int), (b : Int), l, (c : Int), l, m0, (fillN (mB l) b (List.replicate 6 0)).set b (rmS l b c), ())) 6 (r := ((b : Int), l, m0, (fillN (mB l) b (List.replicate 6 0)).set b (rmS l b 6), ())) (fun c hc => by
    have h1 := rmS_range h hb c (by omega)
    have h2 := h c hc
    have h3 := away_range hb hc
    have e : ((fillN (mB l) b (List.replicate 6 0)).set b (rmS l b c)).getD b 0 = rmS l b c := by rw [set_getD _ _ _ _ _ (by omega), if_pos rfl]
    have ew : mx ((b : Int) - c) ((c : Int) - b) = away b c := rfl
    by_cases ha : away b c > 0
    ·simp (disch := omega) only [g_r08_Mask_r1, dT, wT, Int.toNat_natCast, wrap_i64, mx_def, ew, Option.bind_some, e, List.set_set, rmS, if_pos ha]
     rfl
    ·simp (disch := omega) only [g_r08_Mask_r1, dT, dF, wT, Int.toNat_natCast, wrap_i64, mx_def, ew, Option.bind_some, rmS, if_neg ha]
     rfl) (by simp (disch := omega) only [g_r08_Mask_r1, dF])
   rw [rmS_eq hb] at this
   have e0 : (fillN (mB l) b (List.replicate 6 (0 : Int))).set b (rmS l b 0) = fillN (mB l) b (List.replicate 6 0) := by
    refine list_ext_getD 0 (by rw [List.length_set]) fun j hj => ?_
    rw [List.length_set] at hj
    rw [set_getD _ _ _ _ _ (by omega)]
    by_cases hjb : j = b
    ·subst hjb; rw [if_pos rfl, fillN_get _ _ _ _ _ (by simp; omega), if_neg (by omega), rep0]; rfl
    ·rw [if_neg hjb]
   simp only [e0] at this
   exact this
  have a1 := iter_count (f := g_r08_Mask_r2) (fun b => ((b : Int), l, List.replicate 6 0, fillN (mB l) b (List.replicate 6 0), ())) 6 (r := (List.replicate 6 0, fillN (mB l) 6 (List.replicate 6 0), ())) (fun b hb => by
   simp (disch := omega) only [g_r08_Mask_r2, dT, inner b hb, Option.bind_some, wrap_succ]) (by simp (disch := omega) only [g_r08_Mask_r2, dF])
  have e6 : fillN (mB l) 6 (List.replicate 6 0) = tab6 (mB l) 6 := fillN_eq (by simp)
  rw [e6] at a1
  simp (disch := omega) only [g_r08_Mask, c1, Option.bind_some, nF]
  rw [show iter g_r08_Mask_r2 (0, l, List.replicate 6 0, List.replicate 6 0, ()) = _ from a1]
  rfl
 ·rw [ckL_neg h] at c1
  rw [if_neg h]
  simp (disch := omega) only [g_r08_Mask, c1, Option.bind_some, nT]
end Go.Sq
namespace Go.Sq
open Go.Rx
theorem toNat_succ (i : Nat) : ((i : Int) + 1).toNat = i + 1 := by omega
def edgeL : List Int := [0, 1, 2, 4, 6, 10, 16]
def costP (a : List Int) : Nat → Int
 | 0 => 0
 | i + 1 => costP a i + a.getD i 0 * (edgeL.getD (i + 1) 0 - edgeL.getD i 0)
def sh7 (a : List Int) : Prop := a.length = 6 ∧ ∀ i, i < 6 → 0 ≤ a.getD i 0 ∧ a.getD i 0 ≤ 7
theorem edge_w {i : Nat} (h : i < 6) : 1 ≤ edgeL.getD (i + 1) 0 - edgeL.getD i 0 ∧ edgeL.getD (i + 1) 0 - edgeL.getD i 0 ≤ 6 := by
 match i, h with
 | 0, _ => decide
 | 1, _ => decide
 | 2, _ => decide
 | 3, _ => decide
 | 4, _ => decide
 | 5, _ => decide
theorem mul_range {x y a b : Int} (hx : 0 ≤ x) (hx' : x ≤ a) (hy : 0 ≤ y) (hy' : y ≤ b) : 0 ≤ x * y ∧ x * y ≤ a * b :=
 ⟨Int.mul_nonneg hx hy, Int.mul_le_mul hx' hy' hy (Int.le_trans hx hx')⟩
theorem costP_range {a : List Int} (h : sh7 a) : ∀ i, i ≤ 6 → 0 ≤ costP a i ∧ costP a i ≤ 42 * i
 | 0, _ => by simp [costP]
 | i + 1, hi => by
  have := costP_range h i (by omega)
  have h1 := h.2 i (by omega)
  have h2 := edge_w (show i < 6 by omega)
  have h3 := mul_range h1.1 h1.2 (show 0 ≤ edgeL.getD (i + 1) 0 - edgeL.getD i 0 by omega) h2.2
  simp only [costP]; omega
theorem bands_Cost_eq {a : List Int} (h : sh7 a) : g_bands_Cost a = some (costP a 6) := by
 have a1 := iter_count (f := g_bands_Cost_r1) (fun i => (costP a i, (i : Int), a, edgeL, ())) 6 (r := (costP a 6, ())) (fun i hi => by
  have h0 := costP_range h i (by omega)
  have h1 := h.2 i (by omega)
  have h2 := edge_w hi
  have h3 := mul_range h1.1 h1.2 (show 0 ≤ edgeL.getD (i + 1) 0 - edgeL.getD i 0 by omega) h2.2
  simp (disch := omega) only [g_bands_Cost_r1, dT, wT, Int.toNat_natCast, toNat_succ, wrap_i64, costP]
  rfl) (by simp (disch := omega) only [g_bands_Cost_r1, dF])
 have e : g_bands_edges = some edgeL := rfl
 simp only [g_bands_Cost, e, Option.bind_some]
 rw [show iter g_bands_Cost_r1 (0, 0, a, edgeL, ()) = _ from a1]
 rfl
theorem First_eq {i : Nat} (h : i < 7) : g_r08_First (i : Int) = some (edgeL.getD i 0) := by
 simp (disch := omega) only [g_r08_First, wT, Int.toNat_natCast]; rfl
theorem First_succ {i : Nat} (h : i < 6) : g_r08_First ((i : Int) + 1) = some (edgeL.getD (i + 1) 0) := First_eq (i := i + 1) (by omega)
theorem r08_Cost_eq {a : List Int} (h : sh7 a) : g_r08_Cost a = some (costP a 6) := by
 have a1 := iter_count (f := g_r08_Cost_r1) (fun i => (costP a i, a, (i : Int), ())) 6 (r := (costP a 6, ())) (fun i hi => by
  have h0 := costP_range h i (by omega)
  have h1 := h.2 i (by omega)
  have h2 := edge_w hi
  have h3 := mul_range h1.1 h1.2 (show 0 ≤ edgeL.getD (i + 1) 0 - edgeL.getD i 0 by omega) h2.2
  simp (disch := omega) only [g_r08_Cost_r1, dT, wT, Int.toNat_natCast, wrap_i64, First_eq, First_succ hi, Option.bind_some, costP]
  rfl) (by simp (disch := omega) only [g_r08_Cost_r1, dF])
 simp only [g_r08_Cost]
 rw [show iter g_r08_Cost_r1 (0, a, 0, ()) = _ from a1]
 rfl
def al0 (l : List Int) (b : Nat) : Int := if l.getD b 0 ≤ mB l b then 0 else if 7 < (l.getD b 0 - mB l b + 7) / 8 then 7 else (l.getD b 0 - mB l b + 7) / 8
def first (l : List Int) : List Int := tab6 (al0 l) 6
theorem maskS_get {l : List Int} {b : Nat} (hb : b < 6) : (maskS l).getD b 0 = mB l b := tab6_get _ _ _ _ hb
theorem first_sh {l : List Int} (h : lv l) : sh7 (first l) := by
 refine ⟨tab6_len _ _, fun i hi => ?_⟩
 unfold first
 rw [tab6_get _ _ _ _ hi]
 have h1 := mB_range h hi
 have h2 := h i hi
 unfold al0
 split
 ·omega
 ·split <;> omega
theorem tdiv8 {x : Int} (h : 0 ≤ x) : x.tdiv 8 = x / 8 := Int.tdiv_eq_ediv_of_nonneg h
theorem share_first {l : List Int} (h : lv l) {B : Int} : iter g_bands_Share_r1 (0, 0, l, B, List.replicate 6 0, maskS l, ()) = some (0, B, first l, ()) := by
 have e6 : fillN (al0 l) 6 (List.replicate 6 0) = first l := fillN_eq (by simp)
 rw [← e6]
 exact iter_count (f := g_bands_Share_r1) (fun i => (0, (i : Int), l, B, fillN (al0 l) i (List.replicate 6 0), maskS l, ())) 6 (fun i hi => by
  have h1 := mB_range h hi
  have h2 := h i hi
  have h5 : -(40 : Int) ≤ (l.getD i 0 - mB l i + 8 - 1).tdiv 8 ∧ (l.getD i 0 - mB l i + 8 - 1).tdiv 8 ≤ 40 := by
   rcases Int.le_total 0 (l.getD i 0 - mB l i + 8 - 1) with h6 | h6
   ·rw [tdiv8 h6]; omega
   ·have : (l.getD i 0 - mB l i + 8 - 1).tdiv 8 = -((-(l.getD i 0 - mB l i + 8 - 1)) / 8) := by
     rw [← Int.tdiv_eq_ediv_of_nonneg (by omega), Int.neg_tdiv, Int.neg_neg]
    rw [this]; omega
  by_cases h3 : l.getD i 0 ≤ mB l i
  ·have ev : al0 l i = 0 := if_pos h3
   simp (disch := omega) only [g_bands_Share_r1, dT, wT, Int.toNat_natCast, maskS_get hi, Option.bind_some, wrap_succ, List.set_set, fill_step, ev]
  ·have ev : al0 l i = (if 0 < (if 7 < (l.getD i 0 - mB l i + 8 - 1).tdiv 8 then 7 else (l.getD i 0 - mB l i + 8 - 1).tdiv 8) then (if 7 < (l.getD i 0 - mB l i + 8 - 1).tdiv 8 then 7 else (l.getD i 0 - mB l i + 8 - 1).tdiv 8) else 0) := by
    unfold al0
    rw [if_neg h3, tdiv8 (by omega), show l.getD i 0 - mB l i + 8 - 1 = l.getD i 0 - mB l i + 7 by omega]
    split <;> split <;> first | rfl | omega
   simp (disch := omega) only [g_bands_Share_r1, dT, dF, wT, Int.toNat_natCast, maskS_get hi, Option.bind_some, fill_step, ev, wrap_i64]
   rfl) (by simp (disch := omega) only [g_bands_Share_r1, dF])
theorem r08_first {l : List Int} (h : lv l) {B : Int} {z : List Int} : iter g_r08_Share_r1 (B, 0, l, z, List.replicate 6 0, maskS l, ()) = some (B, z, first l, ()) := by
 have e6 : fillN (al0 l) 6 (List.replicate 6 0) = first l := fillN_eq (by simp)
 rw [← e6]
 exact iter_count (f := g_r08_Share_r1) (fun i => (B, (i : Int), l, z, fillN (al0 l) i (List.replicate 6 0), maskS l, ())) 6 (fun i hi => by
  have h1 := mB_range h hi
  have h2 := h i hi
  by_cases h3 : l.getD i 0 ≤ mB l i
  ·have ev : al0 l i = 0 := if_pos h3
   have es : (fillN (al0 l) i (List.replicate 6 0)).set i 0 = fillN (al0 l) i (List.replicate 6 0) := by
    refine list_ext_getD 0 (by rw [List.length_set]) fun j hj => ?_
    rw [List.length_set, fillN_len] at hj
    simp at hj
    rw [set_getD _ _ _ _ _ (by rw [fillN_len]; simp; omega)]
    by_cases hji : j = i
    ·subst hji; rw [if_pos rfl, fillN_get _ _ _ _ _ (by simp; omega), if_neg (by omega), rep0]
    ·rw [if_neg hji]
   have : decide (l.getD i 0 > mB l i) = false := decide_eq_false (by omega)
   simp (disch := omega) only [g_r08_Share_r1, dT, wT, Int.toNat_natCast, maskS_get hi, Option.bind_some, wrap_succ, fill_step, ev, es, this, cond_false]
  ·have ev : al0 l i = (if 7 < (l.getD i 0 - mB l i + 7).tdiv 8 then 7 else (l.getD i 0 - mB l i + 7).tdiv 8) := by
    unfold al0
    rw [if_neg h3, tdiv8 (by omega)]
   have h5 : 0 ≤ (l.getD i 0 - mB l i + 7).tdiv 8 ∧ (l.getD i 0 - mB l i + 7).tdiv 8 ≤ 40 := by rw [tdiv8 (by omega)]; omega
   have : decide (l.getD i 0 > mB l i) = true := decide_eq_true (by omega)
   simp (disch := omega) only [g_r08_Share_r1, dT, dF, wT, Int.toNat_natCast, maskS_get hi, Option.bind_some, fill_step, ev, wrap_i64, this, cond_true]
   rfl) (by simp (disch := omega) only [g_r08_Share_r1, dF])
def am (a : List Int) : Nat → Nat
 | 0 => 0
 | b + 1 => if a.getD b 0 ≥ a.getD (am a b) 0 then b else am a b
theorem am_lt (a : List Int) : ∀ n, am a n < n + 1
 | 0 => by simp [am]
 | n + 1 => by simp only [am]; have := am_lt a n; split <;> omega
theorem am_lt6 (a : List Int) {n : Nat} (hn : n ≤ 6) : am a n < 6 := by
 cases n with
 | zero => simp [am]
 | succ n => simp only [am]; have := am_lt a n; split <;> omega
theorem am_max (a : List Int) : ∀ n c, c < n → a.getD c 0 ≤ a.getD (am a n) 0
 | n + 1, c, h => by
  simp only [am]
  have ih := am_max a n c
  split
  ·by_cases hc : c = n
   ·subst hc; exact Int.le_refl _
   ·have := ih (by omega); omega
  ·by_cases hc : c = n
   ·subst hc; omega
   ·exact ih (by omega)
theorem am_last (a : List Int) : ∀ n c, am a n < c → c < n → a.getD c 0 < a.getD (am a n) 0
 | n + 1, c, h, h' => by
  simp only [am] at h ⊢
  have ih := am_last a n c
  split
  ·rename_i h1; rw [if_pos h1] at h; omega
  ·rename_i h1
   rw [if_neg h1] at h
   by_cases hc : c = n
   ·subst hc; omega
   ·exact ih h (by omega)
theorem am_is {a : List Int} {i : Nat} {n : Nat} (hi : i < n) (h1 : ∀ c, c < n → a.getD c 0 ≤ a.getD i 0) (h2 : ∀ c, i < c → c < n → a.getD c 0 < a.getD i 0) : am a n = i := by
 have hl : am a n < n := by
  cases n with
  | zero => omega
  | succ n => simp only [am]; have := am_lt a n; split <;> omega
 rcases Nat.lt_trichotomy (am a n) i with h | h | h
 ·have := am_last a n i h hi; have := h1 _ hl; omega
 ·exact h
 ·have := h2 _ h hl; have := am_max a n i hi; omega
def dec (a : List Int) (i : Nat) : List Int := a.set i (a.getD i 0 - 1)
inductive cutR (B : Int) : List Int → List Int → Prop
 | stop {a} : costP a 6 ≤ B → cutR B a a
 | go {a r} : B < costP a 6 → cutR B (dec a (am a 6)) r → cutR B a r
theorem cutR.one {B : Int} {a r s : List Int} (h : cutR B a r) (h' : cutR B a s) : r = s := by
 induction h with
 | stop h => cases h' with
  | stop _ => rfl
  | go h2 _ => omega
 | go h _ ih => cases h' with
  | stop h2 => omega
  | go _ h2 => exact ih h2
theorem dec_sh {a : List Int} (h : sh7 a) {i : Nat} (hi : i < 6) (hp : 1 ≤ a.getD i 0) : sh7 (dec a i) := by
 refine ⟨by unfold dec; rw [List.length_set]; exact h.1, fun j hj => ?_⟩
 unfold dec
 rw [set_getD _ _ _ _ _ (by rw [h.1]; exact hi)]
 have h1 := h.2 i hi; have h2 := h.2 j hj
 split <;> omega
theorem cost_pos {a : List Int} (h : sh7 a) (hp : 0 < costP a 6) : 1 ≤ a.getD (am a 6) 0 := by
 by_cases hz : 1 ≤ a.getD (am a 6) 0
 ·exact hz
 ·exfalso
  have all0 : ∀ i, i < 6 → a.getD i 0 = 0 := fun i hi => by
   have := am_max a 6 i hi; have := h.2 i hi; omega
  have : ∀ i, i ≤ 6 → costP a i = 0 := fun i => by
   induction i with
   | zero => intro _; rfl
   | succ i ih => intro hi; simp only [costP]; rw [ih (by omega), all0 i (by omega)]; simp
  rw [this 6 (by omega)] at hp; omega
def sumA (a : List Int) : Nat → Int
 | 0 => 0
 | i + 1 => sumA a i + a.getD i 0
theorem sumA_nonneg {a : List Int} (h : sh7 a) : ∀ i, i ≤ 6 → 0 ≤ sumA a i
 | 0, _ => Int.le_refl _
 | i + 1, hi => by have := sumA_nonneg h i (by omega); have := h.2 i (by omega); simp only [sumA]; omega
theorem sumA_dec {a : List Int} (h : sh7 a) {i : Nat} (hi : i < 6) : ∀ n, n ≤ 6 → sumA (dec a i) n = sumA a n - if i < n then 1 else 0
 | 0, _ => by simp [sumA]
 | n + 1, hn => by
  have ih := sumA_dec h hi n (by omega)
  simp only [sumA]
  rw [ih]
  unfold dec
  rw [set_getD _ _ _ _ _ (by rw [h.1]; exact hi)]
  by_cases h1 : n = i
  ·subst h1; rw [if_pos rfl, if_neg (by omega), if_pos (by omega)]; omega
  ·rw [if_neg h1]
   by_cases h2 : i < n
   ·rw [if_pos h2, if_pos (by omega)]; omega
   ·rw [if_neg h2, if_neg (by omega)]; omega
theorem r08_am {B : Int} {a z : List Int} (h : sh7 a) : iter g_r08_Share_r2 (B, 0, a, 0, z, a, ()) = some (B, (am a 6 : Int), z, a, ()) :=
 iter_count (f := g_r08_Share_r2) (fun i => (B, (am a i : Int), a, (i : Int), z, a, ())) 6 (fun i hi => by
  have h1 := am_lt6 a (show i ≤ 6 by omega)
  by_cases h2 : a.getD i 0 ≥ a.getD (am a i) 0
  ·simp (disch := omega) only [g_r08_Share_r2, dT, wT, Int.toNat_natCast, Option.bind_some, wrap_succ, am, if_pos h2]
  ·simp (disch := omega) only [g_r08_Share_r2, dT, dF, wT, Int.toNat_natCast, Option.bind_some, wrap_succ, am, if_neg h2]) (by simp (disch := omega) only [g_r08_Share_r2, dF])
theorem r08_cut {B : Int} (hB : 0 ≤ B) {a z : List Int} (h : sh7 a) : ∃ r, iter g_r08_Share_r3 (B, z, a, ()) = some (z, r, ()) ∧ cutR B a r ∧ sh7 r := by
 obtain ⟨y, h1, h2⟩ := iter_ex (f := g_r08_Share_r3) (fun p => (sumA p.2.2.1 6).toNat) (fun p => ∃ b, p = (B, z, b, ()) ∧ sh7 b ∧ ∀ r, cutR B b r → cutR B a r) (fun q => ∃ r, q = (z, r, ()) ∧ cutR B a r ∧ sh7 r) (fun p ⟨b, hp, hb, hc⟩ => by
  subst hp
  have c := r08_Cost_eq hb
  by_cases hk : costP b 6 > B
  ·left
   have hpos := cost_pos hb (by omega)
   have hlt := am_lt6 b (Nat.le_refl 6)
   have hr := hb.2 _ hlt
   refine ⟨(B, z, dec b (am b 6), ()), ?_, ⟨_, rfl, dec_sh hb hlt hpos, fun r h3 => hc r (.go hk h3)⟩, ?_⟩
   ·simp (disch := omega) only [g_r08_Share_r3, c, Option.bind_some, dT, r08_am hb, wT, Int.toNat_natCast, wrap_i64]
    rfl
   ·have := sumA_dec hb hlt 6 (by omega)
    rw [if_pos hlt] at this
    have h4 := sumA_nonneg (dec_sh hb hlt hpos) 6 (by omega)
    simp only
    omega
  ·right
   refine ⟨(z, b, ()), ?_, b, rfl, hc b (.stop (by omega)), hb⟩
   simp (disch := omega) only [g_r08_Share_r3, c, Option.bind_some, dF]) (B, z, a, ()) ⟨a, rfl, h, fun r h => h⟩
 obtain ⟨r, rfl, h3, h4⟩ := h2
 exact ⟨r, h1, h3, h4⟩
/-- one pass from the band ahead of n on down, of those that have so many -/
theorem pass {B : Int} (hB : 0 ≤ B) {top : Int} (ht : 1 ≤ top) (ht7 : top ≤ 7) {a : List Int} : ∀ (n : Nat) {b : List Int}, n ≤ 6 → sh7 b → (∀ c, c < 6 → b.getD c 0 ≤ top) → (∀ c, n ≤ c → c < 6 → b.getD c 0 ≤ top - 1) → (∀ r, cutR B b r → cutR B a r) →
    (∃ b', backN g_bands_Share_r2 n (B, b, top, ()) = some (.inl (B, b', top, ())) ∧ sh7 b' ∧ (∀ c, c < 6 → b'.getD c 0 ≤ top - 1) ∧ ∀ r, cutR B b' r → cutR B a r) ∨
    ∃ r, backN g_bands_Share_r2 n (B, b, top, ()) = some (.inr (B, r, top, ())) ∧ cutR B a r ∧ sh7 r
  | 0, b, _, hs, _, h2, hc => .inl ⟨b, rfl, hs, fun c h => h2 c (by omega) h, hc⟩
  | n + 1, b, hn, hs, h1, h2, hc => by
    have c := bands_Cost_eq hs
    simp only [backN]
    by_cases hk : costP b 6 ≤ B
    · right
      refine ⟨b, ?_, hc b (.stop hk), hs⟩
      simp (disch := omega) only [g_bands_Share_r2, c, Option.bind_some, dT]
    · have hr := hs.2 n (by omega)
      by_cases he : b.getD n 0 = top
      · have ha : am b 6 = n := am_is (by omega) (fun c hc => by rw [he]; exact h1 c hc) (fun c h3 h4 => by rw [he]; have := h2 c (by omega) h4; omega)
        have hs' := dec_sh hs (show n < 6 by omega) (by omega)
        have hget : ∀ j, (dec b n).getD j 0 = if j = n then b.getD n 0 - 1 else b.getD j 0 := fun j => set_getD _ _ _ _ _ (by rw [hs.1]; omega)
        have := pass hB ht ht7 n (b := dec b n) (by omega) hs' (fun c h => by
            rw [hget]; split
            · omega
            · exact h1 c h) (fun c h3 h4 => by
            rw [hget]; split
            · omega
            · exact h2 c (by omega) h4) (fun r h3 => hc r (.go (by omega) (by rw [ha]; exact h3)))
        have hf : g_bands_Share_r2 n (B, b, top, ()) = some (.inl (B, dec b n, top, ())) := by
          simp (disch := omega) only [g_bands_Share_r2, c, Option.bind_some, dF, eT, wT, Int.toNat_natCast, wrap_i64]
          rfl
        rw [hf]
        exact this
      · have := pass hB ht ht7 n (b := b) (by omega) hs h1 (fun c h3 h4 => by
          by_cases h5 : c = n
          · subst h5; have := h1 c h4; omega
          · exact h2 c (by omega) h4) hc
        have hf : g_bands_Share_r2 n (B, b, top, ()) = some (.inl (B, b, top, ())) := by
          simp (disch := omega) only [g_bands_Share_r2, c, Option.bind_some, dF, eF]
        rw [hf]
        exact this
theorem bands_cut {B : Int} (hB : 0 ≤ B) {k : Int} {a : List Int} (h : sh7 a) : ∃ r, iter g_bands_Share_r3 (k, B, a, 7, ()) = some (r, ()) ∧ cutR B a r ∧ sh7 r := by
 obtain ⟨y, h1, h2⟩ := iter_ex (f := g_bands_Share_r3) (fun p => p.2.2.2.1.toNat) (fun p => ∃ b top, p = (k, B, b, top, ()) ∧ 0 ≤ top ∧ top ≤ 7 ∧ sh7 b ∧ (∀ c, c < 6 → b.getD c 0 ≤ top) ∧ ∀ r, cutR B b r → cutR B a r) (fun q => ∃ r, q = (r, ()) ∧ cutR B a r ∧ sh7 r) (fun p ⟨b, top, hp, ht0, ht7, hb, hm, hc⟩ => by
  subst hp
  by_cases ht : top > 0
  ·rcases pass hB (show 1 ≤ top by omega) ht7 6 (Nat.le_refl 6) hb hm (fun c h3 h4 => by omega) hc with ⟨b', h3, h4, h5, h6⟩ | ⟨r, h3, h4, h5⟩
   ·left
    refine ⟨(k, B, b', top - 1, ()), ?_, ⟨b', top - 1, rfl, by omega, by omega, h4, h5, h6⟩, by simp only; omega⟩
    simp (disch := omega) only [g_bands_Share_r3, dT, h3, Option.bind_some, wrap_i64]
   ·right
    refine ⟨(r, ()), ?_, r, rfl, h4, h5⟩
    simp (disch := omega) only [g_bands_Share_r3, dT, h3, Option.bind_some]
  ·right
   have hz : costP b 6 ≤ B := by
    by_cases h3 : 0 < costP b 6
    ·have := cost_pos hb h3; have := hm _ (am_lt6 b (Nat.le_refl 6)); omega
    ·omega
   refine ⟨(b, ()), ?_, b, rfl, hc b (.stop hz), hb⟩
   simp (disch := omega) only [g_bands_Share_r3, dF]) (k, B, a, 7, ()) ⟨a, 7, rfl, by omega, by omega, h, fun c hc => (h.2 c hc).2, fun r h => h⟩
 obtain ⟨r, rfl, h3, h4⟩ := h2
 exact ⟨r, h1, h3, h4⟩
theorem cutR_cost {B : Int} {a r : List Int} (h : cutR B a r) : costP r 6 ≤ B := by
 induction h with
 | stop h => exact h
 | go _ _ ih => exact ih
theorem Share_same {l : List Int} (hl : l.length = 6) (h : lv l) : ∃ a, g_bands_Share l 120 = some (a, 0) ∧ g_r08_Share l 120 = some (a, 0) ∧ sh7 a ∧ cutR 120 (first l) a := by
 have m1 := bands_Mask_eq hl
 have m2 := r08_Mask_eq hl
 rw [if_pos h] at m1 m2
 obtain ⟨r, h1, h2, h3⟩ := bands_cut (B := 120) (by omega) (k := 0) (first_sh h)
 obtain ⟨s, h4, h5, h6⟩ := r08_cut (B := 120) (by omega) (z := List.replicate 6 0) (first_sh h)
 have := cutR.one h2 h5
 subst this
 refine ⟨r, ?_, ?_, h3, h2⟩
 ·simp (disch := omega) only [g_bands_Share, m1, Option.bind_some, nF, decide_eq_false, cond_false, share_first h, h1]
 ·simp (disch := omega) only [g_r08_Share, m2, Option.bind_some, nF, decide_eq_false, cond_false, r08_first h, h4]
theorem Share_bad {l : List Int} (hl : l.length = 6) (h : ¬ lv l) : g_bands_Share l 120 = some (List.replicate 6 0, 1) ∧ g_r08_Share l 120 = some (List.replicate 6 0, 1) := by
 have m1 := bands_Mask_eq hl
 have m2 := r08_Mask_eq hl
 rw [if_neg h] at m1 m2
 constructor
 ·simp (disch := omega) only [g_bands_Share, m1, Option.bind_some, nT]; rfl
 ·simp (disch := omega) only [g_r08_Share, m2, Option.bind_some, nT]; rfl
end Go.Sq
namespace Go.Sq
open Go.Rx
def bandOf (n : Nat) : Nat := if n < 1 then 0 else if n < 2 then 1 else if n < 4 then 2 else if n < 6 then 3 else if n < 10 then 4 else 5
theorem band_lt (n : Nat) : bandOf n < 6 := by unfold bandOf; split <;> (try split) <;> (try split) <;> (try split) <;> (try split) <;> omega
theorem band_up : ∀ n, n < 16 → ∀ k, k < 5 - bandOf n → edgeL.getD (5 - k) 0 > (n : Int) := by decide
theorem band_at : ∀ n, n < 16 → edgeL.getD (bandOf n) 0 ≤ (n : Int) ∧ edgeL.getD (bandOf n + 1) 0 > (n : Int) := by decide
theorem bands_Of_eq {n : Nat} (hn : n < 16) : g_bands_Of (n : Int) = some ((bandOf n : Int), 0) := by
 have hb := band_lt n
 have h0 := band_at n hn
 have a1 := iter_count (f := g_bands_Of_r1) (fun k => ((n : Int), ((5 : Int) - (k : Int)), edgeL, ())) (5 - bandOf n) (r := ((bandOf n : Int), ())) (fun k hk => by
  have h := band_up n hn k hk
  have e : ((5 : Int) - (k : Int)).toNat = 5 - k := by omega
  have e2 : decide (edgeL.getD (5 - k) 0 > (n : Int)) = true := decide_eq_true h
  simp (disch := omega) only [g_bands_Of_r1, wT, e, e2, cond_true, wrap_i64]
  rw [show (5 : Int) - (k : Int) - 1 = 5 - ((k + 1 : Nat) : Int) by omega]) (by
  have e : ((5 : Int) - ((5 - bandOf n : Nat) : Int)).toNat = bandOf n := by omega
  have e3 : ((5 : Int) - ((5 - bandOf n : Nat) : Int)) = (bandOf n : Int) := by omega
  have e2 : decide (edgeL.getD (bandOf n) 0 > (n : Int)) = false := decide_eq_false (by omega)
  simp (disch := omega) only [g_bands_Of_r1, wT, e3, Int.toNat_natCast, e2, cond_false])
 have e : g_bands_edges = some edgeL := rfl
 have e2 : decide ((n : Int) ≥ 16) = false := decide_eq_false (by omega)
 simp (disch := omega) only [g_bands_Of, dF, e2, Option.bind_some, cond_false, e]
 rw [show iter g_bands_Of_r1 ((n : Int), 5, edgeL, ()) = _ from a1]
 rfl
def mostS (w : Int) : Int := 2 ^ w.toNat - 1
theorem w_cases {w : Int} (h : 0 ≤ w) (h7 : w ≤ 7) : w = 0 ∨ w = 1 ∨ w = 2 ∨ w = 3 ∨ w = 4 ∨ w = 5 ∨ w = 6 ∨ w = 7 := by omega
theorem quant_Most_eq {w : Int} (h : 0 ≤ w) (h7 : w ≤ 7) : g_quant_Most w = some (mostS w) := by
 rcases w_cases h h7 with rfl | rfl | rfl | rfl | rfl | rfl | rfl | rfl <;> kernel_rfl
theorem mostS_range {w : Int} (h : 0 ≤ w) (h7 : w ≤ 7) : 0 ≤ mostS w ∧ mostS w ≤ 127 ∧ (1 ≤ w → 1 ≤ mostS w) := by
 rcases w_cases h h7 with rfl | rfl | rfl | rfl | rfl | rfl | rfl | rfl <;> decide
def peakS (L : Nat) : Int := (((8 + L % 8) * 2 ^ (L / 8) / 8 : Nat) : Int) + 1
def stepS (L : Nat) (w : Int) : Int := (peakS L - 1) / mostS w + 1
theorem pow_le31 {k : Nat} (h : k ≤ 31) : 2 ^ k ≤ 2147483648 := Nat.pow_le_pow_right (n := 2) (by omega) h
theorem peak_lt {L : Nat} (hL : L < 256) : (8 + L % 8) * 2 ^ (L / 8) ≤ 15 * 2147483648 ∧ 8 ≤ (8 + L % 8) * 2 ^ (L / 8) := by
 refine ⟨Nat.mul_le_mul (by omega) (pow_le31 (by omega)), ?_⟩
 have := Nat.mul_le_mul (show 8 ≤ 8 + L % 8 by omega) (Nat.one_le_two_pow (n := L / 8))
 omega
theorem peakS_range {L : Nat} (hL : L < 256) : 2 ≤ peakS L ∧ peakS L ≤ 4026531841 := by
 have := peak_lt hL
 unfold peakS; omega
theorem tdivN {a b : Nat} : ((a : Int)).tdiv (b : Int) = ((a / b : Nat) : Int) := by simp
theorem quant_Peak_eq {L : Nat} (hL : L < 256) : g_quant_Peak (L : Int) = some (peakS L, 0) := by
 have e2 : decide ((L : Int) > 255) = false := decide_eq_false (by omega)
 have e3 : (L : Int).tdiv 8 = ((L / 8 : Nat) : Int) := tdivN (b := 8)
 have e4 : (8 : Int) + (L : Int).tmod 8 = ((8 + L % 8 : Nat) : Int) := by
  rw [show (L : Int).tmod 8 = ((L % 8 : Nat) : Int) from rfl]; rfl
 have hp := peak_lt hL
 have e5 : shlI .i64 ((8 + L % 8 : Nat) : Int) ((L / 8 : Nat) : Int) = (((8 + L % 8) * 2 ^ (L / 8) : Nat) : Int) := by
  unfold shlI
  rw [Int.toNat_natCast, Nat.min_eq_left (show L / 8 ≤ IntKind.i64.bits by show L / 8 ≤ 64; omega)]
  have : ((8 + L % 8 : Nat) : Int) * 2 ^ (L / 8) = (((8 + L % 8) * 2 ^ (L / 8) : Nat) : Int) := by simp
  rw [this, wrap_i64 (by omega) (by omega)]
 have e6 : (((8 + L % 8) * 2 ^ (L / 8) : Nat) : Int).tdiv 8 = (((8 + L % 8) * 2 ^ (L / 8) / 8 : Nat) : Int) := tdivN (b := 8)
 unfold peakS
 simp (disch := omega) only [g_quant_Peak, dF, e2, Option.bind_some, cond_false, e3, e4, wrap_i64, dT, e5, e6]
theorem div_range {p m : Int} (hp : 0 ≤ p) (hp2 : p ≤ 4026531841) (hm : 1 ≤ m) : 0 ≤ p / m ∧ p / m ≤ 4026531841 :=
 ⟨Int.ediv_nonneg hp (by omega), Int.le_trans (Int.ediv_le_self m hp) hp2⟩
theorem quant_Step_eq {L : Nat} (hL : L < 256) {w : Int} (h1 : 1 ≤ w) (h7 : w ≤ 7) : g_quant_Step (L : Int) w = some (stepS L w, 0) := by
 have p := peakS_range hL
 have m := mostS_range (show 0 ≤ w by omega) h7
 have m1 := m.2.2 h1
 have e2 : decide (w > 7) = false := decide_eq_false (by omega)
 have e3 : (peakS L - 1).tdiv (mostS w) = (peakS L - 1) / mostS w := Int.tdiv_eq_ediv_of_nonneg (by omega)
 have d := div_range (show 0 ≤ peakS L - 1 by omega) (by omega) m1
 unfold stepS
 simp (disch := omega) only [g_quant_Step, quant_Peak_eq hL, Option.bind_some, nF, dF, e2, cond_false, quant_Most_eq, nT, wrap_i64, e3]
noncomputable def shareF (l : List Int) : List Int := ((g_bands_Share l 120).getD ([], 1)).1
theorem shareF_ok {l : List Int} (hl : l.length = 6) (h : lv l) : g_bands_Share l 120 = some (shareF l, 0) ∧ g_r08_Share l 120 = some (shareF l, 0) ∧ sh7 (shareF l) ∧ costP (shareF l) 6 ≤ 120 := by
 obtain ⟨a, h1, h2, h3, h4⟩ := Share_same hl h
 have : shareF l = a := by unfold shareF; rw [h1]; rfl
 rw [this]; exact ⟨h1, h2, h3, cutR_cost h4⟩
noncomputable def wideF (l : List Int) (n : Nat) : Int := (shareF l).getD (bandOf n) 0
theorem wideF_range {l : List Int} (hl : l.length = 6) (h : lv l) (n : Nat) : 0 ≤ wideF l n ∧ wideF l n ≤ 7 := (shareF_ok hl h).2.2.1.2 _ (band_lt n)
noncomputable def mostF (l : List Int) (n : Nat) : Int := if wideF l n = 0 then 0 else mostS (wideF l n)
noncomputable def stepF (l : List Int) (n : Nat) : Int := if wideF l n = 0 then 0 else stepS (l.getD (bandOf n) 0).toNat (wideF l n)
noncomputable def scF (l : List Int) (n : Nat) : Int × Int := if wideF l n = 0 then (0, 0) else (stepS (l.getD (bandOf n) 0).toNat (wideF l n), mostS (wideF l n))
theorem scF_eq (l : List Int) (n : Nat) : scF l n = (stepF l n, mostF l n) := by unfold scF stepF mostF; split <;> rfl
theorem mostF_range {l : List Int} (hl : l.length = 6) (h : lv l) (n : Nat) : 0 ≤ mostF l n ∧ mostF l n ≤ 127 := by
 have w := wideF_range hl h n
 unfold mostF
 split
 ·omega
 ·have := mostS_range w.1 w.2; omega
theorem band_edge : ∀ b, b < 6 → ∀ n : Nat, n < 16 → (edgeL.getD b 0 ≤ (n : Int) ∧ (n : Int) < edgeL.getD (b + 1) 0 ↔ bandOf n = b) := by decide
theorem edge_mono : ∀ b, b < 6 → 0 ≤ edgeL.getD b 0 ∧ edgeL.getD b 0 < edgeL.getD (b + 1) 0 ∧ edgeL.getD (b + 1) 0 ≤ 16 := by decide
theorem Edge_eq : ∀ {b : Nat}, b < 6 → g_bands_Edge (b : Int) = some (edgeL.getD b 0, (edgeL.getD (b + 1) 0, 0))
 | 0, _ => by kernel_rfl
 | 1, _ => by kernel_rfl
 | 2, _ => by kernel_rfl
 | 3, _ => by kernel_rfl
 | 4, _ => by kernel_rfl
 | 5, _ => by kernel_rfl
theorem rep00 (n i : Nat) : (List.replicate n ((0, 0) : Int × Int)).getD i (0, 0) = (0, 0) := by
 simp only [List.getD_eq_getElem?_getD, List.getElem?_replicate]; split <;> rfl
noncomputable def zero16 : List (Int × Int) := List.replicate 16 (0, 0)
theorem scales_ok {l : List Int} (hl : l.length = 6) (h : lv l) : g_quant_scales l = some (tab6 (scF l) 16, (shareF l, 0)) := by
 obtain ⟨s1, _, s3, _⟩ := shareF_ok hl h
 generalize ha : shareF l = a at s1 s3
 have hw : ∀ n, wideF l n = a.getD (bandOf n) 0 := fun n => by unfold wideF; rw [ha]
 have z16 : zero16.length = 16 := by simp [zero16]
 have a1 := iter_count (f := g_quant_scales_r2) (fun b => (0, a, (b : Int), l, fillN (scF l) (edgeL.getD b 0).toNat zero16, a, ())) 6 (r := (0, fillN (scF l) 16 zero16, a, ())) (fun b hb => by
  have hab := s3.2 b hb
  have hlb := h b hb
  have he := edge_mono b hb
  by_cases hz : a.getD b 0 = 0
  ·have e : fillN (scF l) (edgeL.getD (b + 1) 0).toNat zero16 = fillN (scF l) (edgeL.getD b 0).toNat zero16 := by
    refine list_ext_getD (0, 0) (by rw [fillN_len, fillN_len]) fun j hj => ?_
    rw [fillN_len, z16] at hj
    rw [fillN_get _ _ _ _ _ (by rw [z16]; omega), fillN_get _ _ _ _ _ (by rw [z16]; omega)]
    by_cases h1 : j < (edgeL.getD b 0).toNat
    ·rw [if_pos h1, if_pos (by omega)]
    ·rw [if_neg h1]
     by_cases h2 : j < (edgeL.getD (b + 1) 0).toNat
     ·rw [if_pos h2]
      have hb' : bandOf j = b := (band_edge b hb j hj).1 ⟨by omega, by omega⟩
      unfold scF zero16
      rw [hw, hb', hz, rep00]; rfl
     ·rw [if_neg h2]
   simp (disch := omega) only [g_quant_scales_r2, dT, wT, Int.toNat_natCast, nF, Option.bind_some, eT, wrap_succ, e, hz, beq_self_eq_true, cond_true]
  ·have hq := mostS_range hab.1 hab.2
   have hlN : l.getD b 0 = (((l.getD b 0).toNat : Nat) : Int) := by omega
   have hst := quant_Step_eq (L := (l.getD b 0).toNat) (by omega) (w := a.getD b 0) (by omega) hab.2
   rw [← hlN] at hst
   have hin := iter_to (f := g_quant_scales_r1) (fun k => (0, a.getD b 0, edgeL.getD (b + 1) 0, stepS (l.getD b 0).toNat (a.getD b 0), edgeL.getD b 0 + (k : Int), a, (b : Int), l, fillN (scF l) ((edgeL.getD b 0).toNat + k) zero16, a, ())) (edgeL.getD (b + 1) 0 - edgeL.getD b 0).toNat (fun k hk => by
    have hb' : bandOf ((edgeL.getD b 0).toNat + k) = b := (band_edge b hb _ (by omega)).1 ⟨by omega, by omega⟩
    have e2 : (edgeL.getD b 0 + (k : Int)).toNat = (edgeL.getD b 0).toNat + k := by omega
    have e3 : edgeL.getD b 0 + (k : Int) + 1 = edgeL.getD b 0 + ((k + 1 : Nat) : Int) := by omega
    have e4 : scF l ((edgeL.getD b 0).toNat + k) = (stepS (l.getD b 0).toNat (a.getD b 0), mostS (a.getD b 0)) := by
     unfold scF; rw [hw, hb', if_neg hz]
    simp (disch := omega) only [g_quant_scales_r1, dT, quant_Most_eq, Option.bind_some, wT, e2, wrap_i64, e3, ← Nat.add_assoc, fill_step, e4])
   have hend : g_quant_scales_r1 (0, a.getD b 0, edgeL.getD (b + 1) 0, stepS (l.getD b 0).toNat (a.getD b 0), edgeL.getD b 0 + (((edgeL.getD (b + 1) 0 - edgeL.getD b 0).toNat : Nat) : Int), a, (b : Int), l, fillN (scF l) ((edgeL.getD b 0).toNat + (edgeL.getD (b + 1) 0 - edgeL.getD b 0).toNat) zero16, a, ()) = some (.inr (0, a, (b : Int), l, fillN (scF l) ((edgeL.getD b 0).toNat + (edgeL.getD (b + 1) 0 - edgeL.getD b 0).toNat) zero16, a, ())) := by
    simp (disch := omega) only [g_quant_scales_r1, dF]
   have hin2 := hin.trans (iter_inr hend)
   simp only [Int.natCast_zero, Int.add_zero, Nat.add_zero] at hin2
   rw [show (edgeL.getD b 0).toNat + (edgeL.getD (b + 1) 0 - edgeL.getD b 0).toNat = (edgeL.getD (b + 1) 0).toNat by omega] at hin2
   simp (disch := omega) only [g_quant_scales_r2, dT, wT, Int.toNat_natCast, nF, Option.bind_some, eF, Edge_eq hb, hst, hin2, wrap_succ, beq_false_of_ne hz, cond_false]) (by
  simp (disch := omega) only [g_quant_scales_r2, dF]; rfl)
 have e16 : fillN (scF l) 16 zero16 = tab6 (scF l) 16 := fillN_eq z16
 rw [e16] at a1
 simp only [g_quant_scales, s1, Option.bind_some]
 rw [show iter g_quant_scales_r2 (0, a, 0, l, List.replicate 16 (0, 0), a, ()) = _ from a1]
 rfl
theorem scales_bad {l : List Int} (hl : l.length = 6) (h : ¬ lv l) : g_quant_scales l = some (zero16, (List.replicate 6 0, 1)) := by
 have s1 := (Share_bad hl h).1
 have a1 := iter_count (f := g_quant_scales_r2) (fun b => (1, List.replicate 6 0, (b : Int), l, zero16, List.replicate 6 0, ())) 6 (r := (1, zero16, List.replicate 6 0, ())) (fun b hb => by
  simp (disch := omega) only [g_quant_scales_r2, dT, wT, Int.toNat_natCast, nT, Option.bind_some, wrap_succ, cond_true]) (by
  simp (disch := omega) only [g_quant_scales_r2, dF])
 simp only [g_quant_scales, s1, Option.bind_some]
 rw [show iter g_quant_scales_r2 (1, List.replicate 6 0, 0, l, List.replicate 16 (0, 0), List.replicate 6 0, ()) = _ from a1]
 rfl
end Go.Sq
namespace Go.Sq
open Go.Rx
noncomputable def mayP (q l : List Int) : Prop := lv l ∧ ∀ n, n < 16 → -mostF l n ≤ q.getD n 0 ∧ q.getD n 0 ≤ mostF l n
def clipS (m v : Int) : Int := if -m < (if m < v then m else v) then (if m < v then m else v) else -m
theorem clipS_iff {m v : Int} (hm : 0 ≤ m) : clipS m v = v ↔ -m ≤ v ∧ v ≤ m := by unfold clipS; split <;> split <;> omega
open Classical in
theorem quant_May_eq {q l : List Int} (hq : q.length = 16) (hl : l.length = 6) : g_quant_May q l = some (decide (mayP q l)) := by
 by_cases h : lv l
 ·have s := scales_ok hl h
  have a1 := iter_count (f := g_quant_May_r1) (fun i => (0, q, (i : Int), q, tab6 (scF l) 16, fillN (fun n => clipS (mostF l n) (q.getD n 0)) i q, ())) 16 (r := (0, q, fillN (fun n => clipS (mostF l n) (q.getD n 0)) 16 q, ())) (fun i hi => by
   have e : (tab6 (scF l) 16).getD i (0, 0) = (stepF l i, mostF l i) := by rw [tab6_get _ _ _ _ hi, scF_eq]
   have hm := mostF_range hl h i
   have ec : IntKind.i64.wrap (0 - mostF l i) = -mostF l i := by rw [wrap_i64 (by omega) (by omega)]; omega
   simp (disch := omega) only [g_quant_May_r1, dT, wT, Int.toNat_natCast, wrap_succ, fill_step, e, ec]
   rfl) (by simp (disch := omega) only [g_quant_May_r1, dF])
  simp only [g_quant_May, s, Option.bind_some]
  rw [show iter g_quant_May_r1 (0, q, 0, q, tab6 (scF l) 16, q, ()) = _ from a1]
  simp only [Option.bind_some, beq_self_eq_true, cond_true]
  have e : (fillN (fun n => clipS (mostF l n) (q.getD n 0)) 16 q == q) = decide (mayP q l) := by
   rw [Bool.eq_iff_iff, beq_iff_eq, decide_eq_true_eq]
   constructor
   ·intro he
    refine ⟨h, fun n hn => (clipS_iff (mostF_range hl h n).1).1 ?_⟩
    have : (fillN (fun n => clipS (mostF l n) (q.getD n 0)) 16 q).getD n 0 = q.getD n 0 := by rw [he]
    rw [fillN_get _ _ _ _ _ (by omega), if_pos hn] at this
    exact this
   ·rintro ⟨_, h2⟩
    refine list_ext_getD 0 (fillN_len _ _ _) fun n hn => ?_
    rw [fillN_len, hq] at hn
    rw [fillN_get _ _ _ _ _ (by omega), if_pos hn]
    exact (clipS_iff (mostF_range hl h n).1).2 (h2 n hn)
  rw [e]
 ·have s := scales_bad hl h
  have a1 := iter_to (f := g_quant_May_r1) (fun i => (1, q, (i : Int), q, zero16, fillN (fun n => clipS 0 (q.getD n 0)) i q, ())) 16 (fun i hi => by
   have e : zero16.getD i (0, 0) = (0, 0) := rep00 16 i
   have ec : IntKind.i64.wrap (0 - 0) = -0 := by decide
   simp (disch := omega) only [g_quant_May_r1, dT, wT, Int.toNat_natCast, wrap_succ, fill_step, e, ec]
   rfl)
  have a2 := a1.trans (iter_inr (r := (1, q, fillN (fun n => clipS 0 (q.getD n 0)) 16 q, ())) (by simp (disch := omega) only [g_quant_May_r1, dF]))
  simp only [g_quant_May, s, Option.bind_some]
  rw [show iter g_quant_May_r1 (1, q, 0, q, zero16, q, ()) = _ from a2]
  simp only [Option.bind_some]
  rw [decide_eq_false (show ¬ mayP q l from fun hm => h hm.1)]
  rfl
abbrev FrT := Int × List Int × List Int
def sized (f : FrT) : Prop := f.2.1.length = 6 ∧ f.2.2.length = 16
noncomputable def okFr (f : FrT) (p : List Int) : Prop := lv p ∧ mayP f.2.2 f.2.1 ∧ (f.1 = 0 ∨ f.1 = 1 ∧ nearP f.2.1 p ∨ f.1 = 2 ∧ f.2.2 = List.replicate 16 0)
open Classical in
noncomputable def ckFr (f : FrT) (p : List Int) : Int := if okFr f p then 0 else 1
theorem ckFr_pos {f : FrT} {p : List Int} (h : okFr f p) : ckFr f p = 0 := if_pos h
theorem ckFr_neg {f : FrT} {p : List Int} (h : ¬ okFr f p) : ckFr f p = 1 := if_neg h
open Classical in
theorem frame_Check_eq {f : FrT} {p : List Int} (hf : sized f) (hp : p.length = 6) : g_frame_Check f p = some (ckFr f p) := by
 obtain ⟨k, L, Q⟩ := f
 obtain ⟨hL, hQ⟩ := hf
 simp only at hL hQ
 have c1 := bands_Check_eq hp
 have c2 := quant_May_eq hQ hL
 have c3 := frame_Near_eq hL hp
 by_cases h1 : lv p
 ·rw [ckL_pos h1] at c1
  by_cases h2 : mayP Q L
  ·rw [decide_eq_true h2] at c2
   by_cases k0 : k = 0
   ·rw [ckFr_pos (show okFr (k, L, Q) p from ⟨h1, h2, .inl k0⟩)]
    simp (disch := omega) only [g_frame_Check, c1, c2, Option.bind_some, eT, beq_self_eq_true, cond_true, Bool.not_true, cond_false]
   ·by_cases k1 : k = 1
    ·by_cases h3 : nearP L p
     ·rw [decide_eq_true h3] at c3
      rw [ckFr_pos (show okFr (k, L, Q) p from ⟨h1, h2, .inr (.inl ⟨k1, h3⟩)⟩)]
      simp (disch := omega) only [g_frame_Check, c1, c2, c3, Option.bind_some, eT, eF, beq_self_eq_true, cond_true, Bool.not_true, cond_false]
     ·rw [decide_eq_false h3] at c3
      rw [ckFr_neg (show ¬ okFr (k, L, Q) p from fun h => by rcases h.2.2 with h4 | ⟨_, h4⟩ | ⟨h4, _⟩ <;> simp only at h4 <;> first | omega | exact h3 h4)]
      simp (disch := omega) only [g_frame_Check, c1, c2, c3, Option.bind_some, eT, eF, beq_self_eq_true, cond_true, Bool.not_false]
    ·by_cases k2 : k = 2
     ·by_cases h3 : Q = List.replicate 16 0
      ·rw [ckFr_pos (show okFr (k, L, Q) p from ⟨h1, h2, .inr (.inr ⟨k2, h3⟩)⟩)]
       subst h3
       simp (disch := omega) only [g_frame_Check, c1, c2, Option.bind_some, eT, eF, beq_self_eq_true, cond_true, Bool.not_true, cond_false]
      ·rw [ckFr_neg (show ¬ okFr (k, L, Q) p from fun h => by rcases h.2.2 with h4 | ⟨h4, _⟩ | ⟨_, h4⟩ <;> simp only at h4 <;> first | omega | exact h3 h4)]
       have : (Q == List.replicate 16 0) = false := beq_false_of_ne h3
       simp (disch := omega) only [g_frame_Check, c1, c2, Option.bind_some, eT, eF, beq_self_eq_true, cond_true, this, Bool.not_false]
     ·rw [ckFr_neg (show ¬ okFr (k, L, Q) p from fun h => by rcases h.2.2 with h4 | ⟨h4, _⟩ | ⟨h4, _⟩ <;> simp only at h4 <;> omega)]
      simp (disch := omega) only [g_frame_Check, c1, c2, Option.bind_some, eT, eF, beq_self_eq_true, cond_true, Bool.not_false]
  ·rw [decide_eq_false h2] at c2
   rw [ckFr_neg (show ¬ okFr (k, L, Q) p from fun h => h2 h.2.1)]
   by_cases k0 : k = 0
   ·simp (disch := omega) only [g_frame_Check, c1, c2, Option.bind_some, eT, beq_self_eq_true, cond_true, Bool.not_false]
   ·by_cases k1 : k = 1
    ·simp (disch := omega) only [g_frame_Check, c1, c2, Option.bind_some, eT, eF, beq_self_eq_true, cond_true, cond_false, Bool.not_false]
    ·by_cases k2 : k = 2
     ·simp (disch := omega) only [g_frame_Check, c1, c2, Option.bind_some, eT, eF, beq_self_eq_true, cond_true, cond_false, Bool.not_false]
     ·simp (disch := omega) only [g_frame_Check, c1, c2, Option.bind_some, eF, beq_self_eq_true, cond_true, Bool.not_false]
 ·rw [ckL_neg h1] at c1
  rw [ckFr_neg (show ¬ okFr (k, L, Q) p from fun h => h1 h.1)]
  by_cases k0 : k = 0
  ·simp (disch := omega) only [g_frame_Check, c1, Option.bind_some, eT, eF, cond_true, Bool.not_false]
  ·by_cases k1 : k = 1
   ·simp (disch := omega) only [g_frame_Check, c1, Option.bind_some, eT, eF, cond_true, cond_false, Bool.not_false]
   ·by_cases k2 : k = 2
    ·simp (disch := omega) only [g_frame_Check, c1, Option.bind_some, eT, eF, cond_true, cond_false, Bool.not_false]
    ·simp (disch := omega) only [g_frame_Check, c1, Option.bind_some, eF, cond_true, Bool.not_false]
end Go.Sq
namespace Go.Sq
open Go.Rx
def pre (w : List Int) : Nat → Int
 | 0 => 0
 | i + 1 => pre w i + w.getD i 0
def cum (w : List Int) : List Int := tab6 (pre w) (w.length + 1)
theorem tab6_succ {α : Type} (g : Nat → α) (n : Nat) : tab6 g n ++ [g n] = tab6 g (n + 1) := by
 simp [tab6, List.range_succ]
structure counts (w : List Int) : Prop where
 one : 1 ≤ w.length
 few : w.length ≤ 256
 pos : ∀ i, i < w.length → 1 ≤ w.getD i 0
 tot : pre w w.length ≤ 16384
theorem pre_mono {w : List Int} (h : counts w) : ∀ j i, i ≤ j → j ≤ w.length → pre w i + ((j : Int) - i) ≤ pre w j
  | 0, i, hi, _ => by have : i = 0 := by omega
                      subst this; omega
  | j + 1, i, hi, hj => by
    by_cases h1 : i = j + 1
    · subst h1; omega
    · have := pre_mono h j i (by omega) (by omega)
      have := h.pos j (by omega)
      simp only [pre]; omega
theorem pre_range {w : List Int} (h : counts w) {i : Nat} (hi : i ≤ w.length) : 0 ≤ pre w i ∧ pre w i ≤ 16384 := by
 have h1 := pre_mono h i 0 (by omega) hi
 have h2 := pre_mono h w.length i hi (Nat.le_refl _)
 have h3 := h.tot
 have : pre w 0 = 0 := rfl
 omega
theorem cum_len (w : List Int) : (cum w).length = w.length + 1 := tab6_len _ _
theorem cum_get {w : List Int} {i : Nat} (hi : i ≤ w.length) : (cum w).getD i 0 = pre w i := tab6_get _ _ _ _ (by omega)
theorem cum_ok {w : List Int} (h : counts w) : okF (cum w) := by
 have := h.one; have := h.few
 refine ⟨by rw [cum_len]; omega, by rw [cum_len]; omega, by rw [cum_get (by omega)]; rfl, ?_, fun i hi => ?_⟩
 ·rw [cum_len, Nat.add_sub_cancel, cum_get (Nat.le_refl _)]; exact h.tot
 ·rw [cum_len] at hi
  rw [cum_get (by omega), cum_get (by omega)]
  have := h.pos i (by omega)
  simp only [pre]; omega
theorem cum_tot {w : List Int} (h : counts w) : totS (cum w) = pre w w.length := by
 rw [(totS_pos (cum_ok h)).1, cum_len, Nat.add_sub_cancel, cum_get (Nat.le_refl _)]
theorem tab_last {g : Nat → Int} {i : Nat} (h : i < 1000) : g_freq_last (tab6 g (i + 1)) = some (g i) := by
 have := last_eq (C := tab6 g (i + 1)) (by rw [tab6_len]; omega) (by rw [tab6_len]; omega)
 rw [tab6_len, Nat.add_sub_cancel, tab6_get _ _ _ _ (Nat.lt_succ_self i)] at this
 exact this
theorem tab_room {α : Type} {k n : Nat} (g : Nat → α) (h : n * k ≤ 140737488355328) : room k (tab6 g n).length = true := room_iff.2 (by rw [tab6_len]; exact h)
theorem freq_New_ok {w : List Int} (h : counts w) : g_freq_New w = some (cum w, 0) := by
 have h1 := h.one; have h2 := h.few
 have loop := iter_count (f := g_freq_New_r1) (fun i => (w, w, (w.length : Int), (i : Int), [], tab6 (pre w) (i + 1), ())) w.length (r := .inl (w, [], cum w, ())) (fun i hi => by
  have a := pre_range h (show i ≤ w.length by omega)
  have b := pre_range h (show i + 1 ≤ w.length by omega)
  have c := h.pos i hi
  have e : pre w i + w.getD i 0 = pre w (i + 1) := rfl
  have d : decide (w.getD i 0 > 16384 - pre w i) = false := decide_eq_false (by omega)
  simp (disch := omega) only [g_freq_New_r1, dT, dF, wT, Int.toNat_natCast, Option.bind_some, tab_last (show i < 1000 by omega), wrap_i64, e, d, cond_false, tab6_succ, tab_room (pre w) (show (i + 1 + 1) * 8 ≤ 140737488355328 by omega), cond_true]
  rfl) (by
  simp (disch := omega) only [g_freq_New_r1, dF]; rfl)
 have hroom : (decide ((0 : Int) ≤ 1) && decide (1 ≤ (w.length : Int) + 1) && room 8 ((w.length : Int) + 1).toNat) = true := by
  simp only [Bool.and_eq_true, decide_eq_true_eq, room_iff]; omega
 have hrep : List.replicate 1 (0 : Int) = tab6 (pre w) 1 := rfl
 simp (disch := omega) only [g_freq_New, dF, wrap_i64, hrep]
 refine (cT hroom).trans ?_
 rw [show iter g_freq_New_r1 (w, w, (w.length : Int), 0, [], tab6 (pre w) 1, ()) = _ from loop]
 simp (disch := omega) only [Option.bind_some, eF]
def kindW : List Int := [6, 9, 1]
def chgW : List Int := [1, 1, 2, 3, 5, 9, 16, 30, 60, 30, 16, 9, 5, 3, 2, 1]
def kindsC : List Int := cum kindW
def changesC : List Int := cum chgW
theorem kindW_ok : counts kindW := ⟨by decide, by decide, by decide, by decide⟩
theorem chgW_ok : counts chgW := ⟨by decide, by decide, by decide, by decide⟩
theorem frame_kinds_eq : g_frame_kinds = some kindsC := by
 have := freq_New_ok kindW_ok
 unfold kindW at this
 simp only [g_frame_kinds, this, Option.bind_some]; rfl
theorem frame_changes_eq : g_frame_changes = some changesC := by
 have := freq_New_ok chgW_ok
 unfold chgW at this
 simp only [g_frame_changes, this, Option.bind_some]; rfl
theorem frame_levels_eq : g_frame_levels = some evenC := by
 simp only [g_frame_levels, even_eq, Option.bind_some]
def onesW : List Int := List.replicate 256 1
theorem ones_get {i : Nat} (hi : i < 256) : onesW.getD i 0 = 1 := by
 unfold onesW
 rw [List.getD_eq_getElem?_getD, List.getElem?_replicate, if_pos hi]; rfl
theorem ones_pre : ∀ i, i ≤ 256 → pre onesW i = i
 | 0, _ => rfl
 | i + 1, h => by simp only [pre]; rw [ones_pre i (by omega), ones_get (by omega)]; omega
theorem onesW_len : onesW.length = 256 := List.length_replicate
theorem onesW_ok : counts onesW := ⟨by rw [onesW_len]; omega, by rw [onesW_len]; omega, fun i hi => by rw [onesW_len] at hi; rw [ones_get hi]; omega, by rw [onesW_len, ones_pre _ (by omega)]; decide⟩
theorem cum_ones : cum onesW = evenC := by
 refine list_ext_getD 0 (by rw [cum_len, onesW_len, evenC_len]) fun i hi => ?_
 rw [cum_len, onesW_len] at hi
 rw [cum_get (by rw [onesW_len]; omega), ones_pre i (by omega), evenC_get (by omega)]
def smW (m : Int) (i : Nat) : Int := (if 2 * m - i < (i : Int) then 2 * m - i else (i : Int)) + 1
def smallW (m : Int) : List Int := tab6 (smW m) (2 * m + 1).toNat
def smallsC (m : Int) : List Int := cum (smallW m)
theorem smallW_len {m : Int} : (smallW m).length = (2 * m + 1).toNat := tab6_len _ _
theorem smW_range {m : Int} (h1 : m ≤ 127) {i : Nat} (hi : i < (2 * m + 1).toNat) : 1 ≤ smW m i ∧ smW m i ≤ 128 := by
 unfold smW; split <;> omega
theorem small_pre {m : Int} (h0 : 0 ≤ m) : ∀ i, i ≤ (2 * m + 1).toNat → 2 * pre (smallW m) i = if (i : Int) ≤ m + 1 then (i : Int) * (i + 1) else 2 * ((m + 1) * (m + 1)) - (2 * m + 1 - i) * (2 * m + 2 - i)
 | 0, _ => by
  have : ((0 : Nat) : Int) ≤ m + 1 := by omega
  rw [if_pos this]; rfl
 | i + 1, hi => by
  have ih := small_pre h0 i (by omega)
  have g : (smallW m).getD i 0 = smW m i := tab6_get _ _ _ _ (by omega)
  simp only [pre]
  rw [g, Int.mul_add, ih]
  unfold smW
  have e1 : ((i + 1 : Nat) : Int) = (i : Int) + 1 := by omega
  rw [e1]
  generalize (i : Int) = x at *
  by_cases c1 : x ≤ m
  ·rw [if_pos (by omega), if_neg (by omega), if_pos (by omega)]
   have : x * (x + 1) + 2 * (x + 1) = (x + 1) * (x + 1 + 1) := by
    simp only [Int.add_mul, Int.mul_add]; omega
   omega
  ·by_cases c2 : x = m + 1
   ·subst c2
    rw [if_pos (by omega), if_pos (by omega), if_neg (by omega)]
    have e2 : 2 * m + 1 - (m + 1 + 1) = m - 1 := by omega
    have e3 : 2 * m + 2 - (m + 1 + 1) = m := by omega
    rw [e2, e3]
    simp only [Int.add_mul, Int.mul_add, Int.sub_mul]; omega
   ·rw [if_neg (by omega), if_pos (by omega), if_neg (by omega)]
    have e2 : 2 * m + 1 - (x + 1) = 2 * m - x := by omega
    have e3 : 2 * m + 2 - (x + 1) = 2 * m - x + 1 := by omega
    have e4 : 2 * m + 1 - x = (2 * m - x) + 1 := by omega
    have e5 : 2 * m + 2 - x = (2 * m - x) + 2 := by omega
    rw [e2, e3, e4, e5]
    generalize 2 * m - x = y
    simp only [Int.add_mul, Int.mul_add]; omega
theorem small_tot {m : Int} (h0 : 0 ≤ m) : pre (smallW m) (smallW m).length = (m + 1) * (m + 1) := by
 have := small_pre h0 (2 * m + 1).toNat (Nat.le_refl _)
 rw [smallW_len]
 have e : (((2 * m + 1).toNat : Nat) : Int) = 2 * m + 1 := by omega
 rw [e] at this
 split at this
 ·have : m = 0 := by omega
  subst this; rfl
 ·simp only [Int.sub_self, Int.zero_mul, Int.sub_zero] at this
  omega
theorem smallW_ok {m : Int} (h0 : 0 ≤ m) (h1 : m ≤ 127) : counts (smallW m) := by
 refine ⟨by rw [smallW_len]; omega, by rw [smallW_len]; omega, fun i hi => ?_, ?_⟩
 ·rw [smallW_len] at hi
  unfold smallW
  rw [tab6_get _ _ _ _ hi]
  exact (smW_range h1 hi).1
 ·rw [small_tot h0]
  have : (m + 1) * (m + 1) ≤ 128 * 128 := Int.mul_le_mul (by omega) (by omega) (by omega) (by omega)
  omega
theorem frame_smalls_eq {m : Int} (h0 : 0 ≤ m) (h1 : m ≤ 127) : g_frame_smalls m = some (smallsC m) := by
 have hn := freq_New_ok (smallW_ok h0 h1)
 have hN : (((2 * m + 1).toNat : Nat) : Int) = 2 * m + 1 := by omega
 have hz : (List.replicate (2 * m + 1).toNat (0 : Int)).length = (2 * m + 1).toNat := by simp
 have a1 := iter_count (f := g_frame_smalls_r1) (fun i => (m, fillN (smW m) i (List.replicate (2 * m + 1).toNat 0), 2 * m + 1, (i : Int), [], ())) (2 * m + 1).toNat (r := (smallW m, [], ())) (fun i hi => by
  have hl : (fillN (smW m) i (List.replicate (2 * m + 1).toNat (0 : Int))).length = (2 * m + 1).toNat := by rw [fillN_len, hz]
  have hr := smW_range h1 hi
  have e : (if 2 * m - (i : Int) < (i : Int) then 2 * m - (i : Int) else (i : Int)) + 1 = smW m i := rfl
  simp (disch := omega) only [g_frame_smalls_r1, dT, hl, wT, Int.toNat_natCast, wrap_i64, e, fill_step]
  rfl) (by
  rw [fillN_eq hz]
  simp (disch := omega) only [g_frame_smalls_r1, dF]; rfl)
 have hroom : (decide ((0 : Int) ≤ 2 * m + 1) && decide (2 * m + 1 ≤ 2 * m + 1) && room 8 (2 * m + 1).toNat) = true := by
  simp only [Bool.and_eq_true, decide_eq_true_eq, room_iff]; omega
 simp (disch := omega) only [g_frame_smalls, wrap_i64, hz, hN]
 refine (cT hroom).trans ?_
 rw [show iter g_frame_smalls_r1 (m, List.replicate (2 * m + 1).toNat 0, 2 * m + 1, 0, [], ()) = _ from a1]
 simp only [Option.bind_some, hn]; rfl
end Go.Sq
