/- Parts of a proof: evaluation of Go code over typed values, and what it computes. -/
import Derived.Test.YtefeeifdndoggaaDoorL7
import Derived.Test.YtefeeifdndoggaaDoorF
set_option linter.unusedSimpArgs false
set_option linter.unusedVariables false
set_option linter.unusedSectionVars false
namespace Go.Sq
open Go.Rx
abbrev FlT := Int × Int × Int × Int × Int × Int × Int × List (Int × Int) × List Int
theorem bs_any {l : List Int} {x : Int} (hl : l.length ≤ 1000000) : ∃ (i : Nat) (f : Bool), g_slices_BinarySearch_Sint_int l x = some ((i : Int), f) ∧ i ≤ l.length ∧ (f = true → i < l.length ∧ x ∈ l) := by
 have loop : ∃ r, iter g_slices_BinarySearch_Sint_int_r1 (l, x, (l.length : Int), 0, (l.length : Int), ()) = some r ∧ ∃ p : Nat, p ≤ l.length ∧ r = (l, x, (l.length : Int), (p : Int), ()) := by
  refine iter_ex (fun y => (y.2.2.2.2.1 - y.2.2.2.1).toNat) (fun y => ∃ i j : Nat, y = (l, x, (l.length : Int), (i : Int), (j : Int), ()) ∧ i ≤ j ∧ j ≤ l.length) (fun r => ∃ p : Nat, p ≤ l.length ∧ r = (l, x, (l.length : Int), (p : Int), ())) ?_ _ ⟨0, l.length, rfl, Nat.zero_le _, Nat.le_refl _⟩
  rintro y ⟨i, j, rfl, h4, h5⟩
  by_cases h6 : i < j
  ·have e1 : (i : Int) + (j : Int) = ((i + j : Nat) : Int) := by omega
   have e2 : shrI .u64 ((i + j : Nat) : Int) 1 = (((i + j) >>> 1 : Nat) : Int) := shr_nat (n := 1) (by simp [IntKind.bits])
   have e3 : (i + j) >>> 1 = (i + j) / 2 := by rw [Nat.shiftRight_eq_div_pow]
   rw [e3] at e2
   by_cases h7 : l.getD ((i + j) / 2) 0 < x
   ·left
    refine ⟨(l, x, (l.length : Int), (((i + j) / 2 + 1 : Nat) : Int), (j : Int), ()), ?_, ⟨_, j, rfl, by omega, h5⟩, by simp only; omega⟩
    simp (disch := omega) only [g_slices_BinarySearch_Sint_int_r1, dT, wrap_i64, wrap_u64, e1, e2, wT, Int.toNat_natCast, cmp_Less_eq, Option.bind_some]
    rfl
   ·left
    refine ⟨(l, x, (l.length : Int), (i : Int), (((i + j) / 2 : Nat) : Int), ()), ?_, ⟨i, _, rfl, by omega, by omega⟩, by simp only; omega⟩
    simp (disch := omega) only [g_slices_BinarySearch_Sint_int_r1, dT, dF, wrap_i64, wrap_u64, e1, e2, wT, Int.toNat_natCast, cmp_Less_eq, Option.bind_some]
  ·right
   refine ⟨_, ?_, i, by omega, rfl⟩
   simp (disch := omega) only [g_slices_BinarySearch_Sint_int_r1, dF]
 obtain ⟨r, h3, p, hp, rfl⟩ := loop
 by_cases hpl : p < l.length
 ·by_cases hc : l.getD p 0 = x
  ·refine ⟨p, true, ?_, hp, fun _ => ⟨hpl, ?_⟩⟩
   ·simp (disch := omega) only [g_slices_BinarySearch_Sint_int, h3, Option.bind_some, dT, wT, Int.toNat_natCast, eT]
   ·rw [← hc, List.getD_eq_getElem?_getD, List.getElem?_eq_getElem hpl]; exact List.getElem_mem _
  ·refine ⟨p, false, ?_, hp, fun h => nomatch h⟩
   simp (disch := omega) only [g_slices_BinarySearch_Sint_int, h3, Option.bind_some, dT, wT, Int.toNat_natCast, eF, g_slices_isNaN_int, bne_self_eq_false, cond_false]
 ·refine ⟨p, false, ?_, hp, fun h => nomatch h⟩
  simp (disch := omega) only [g_slices_BinarySearch_Sint_int, h3, Option.bind_some, dF]
theorem member_any {f : FlT} {x : Int} (hl : f.2.2.2.2.2.2.2.2.length ≤ 1000000) : ∃ b, g_floor_member f x = some b ∧ (b = true → x ∈ f.2.2.2.2.2.2.2.2) := by
 obtain ⟨i, b, h1, h2, h3⟩ := bs_any (x := x) hl
 refine ⟨b, ?_, fun h => (h3 h).2⟩
 unfold g_floor_member
 rw [h1]; rfl
theorem withinF_eq (a b : Int) : g_floor_within a b = some (decide (0 ≤ a) && decide (a ≤ b)) := by
 unfold g_floor_within
 by_cases h : a ≥ 0
 ·rw [dT h, decide_eq_true (show 0 ≤ a from h)]; rfl
 ·rw [dF h, decide_eq_false (show ¬ 0 ≤ a from h)]; rfl
theorem find_any {f : FlT} {x : Int} (hl : f.2.2.2.2.2.2.2.1.length ≤ 1000000) : ∃ k : Int, g_floor_find f x = some k ∧ -1 ≤ k ∧ k < (f.2.2.2.2.2.2.2.1.length : Int) := by
 obtain ⟨W, hW⟩ : ∃ W, W = f.2.2.2.2.2.2.2.1 := ⟨_, rfl⟩
 have loop : ∃ r, iter g_floor_find_r1 (W, (W.length : Int), 0, x, ()) = some r ∧ (r = .inl (W, x, ()) ∨ ∃ k : Nat, k < W.length ∧ r = .inr (W, (k : Int), x, ())) := by
  refine iter_ex (f := g_floor_find_r1) (fun y => (y.2.1 - y.2.2.1).toNat) (fun y => ∃ i : Nat, y = (W, (W.length : Int), (i : Int), x, ()) ∧ i ≤ W.length) (fun r => r = .inl (W, x, ()) ∨ ∃ k : Nat, k < W.length ∧ r = .inr (W, (k : Int), x, ())) ?_ _ ⟨0, rfl, Nat.zero_le _⟩
  rintro y ⟨i, rfl, hi⟩
  rw [← hW] at hl
  by_cases h : i < W.length
  ·cases hc : ((W.getD i (0, 0)).1 == x) with
   | true =>
    right
    refine ⟨_, ?_, .inr ⟨i, h, rfl⟩⟩
    simp (disch := omega) only [g_floor_find_r1, dT, wT, Int.toNat_natCast, hc, cond_true]
   | false =>
    left
    refine ⟨(W, (W.length : Int), ((i + 1 : Nat) : Int), x, ()), ?_, ⟨i + 1, rfl, h⟩, by simp only; omega⟩
    simp (disch := omega) only [g_floor_find_r1, dT, wT, Int.toNat_natCast, hc, cond_false, wrap_i64]
    rfl
  ·right
   refine ⟨_, ?_, .inl rfl⟩
   simp (disch := omega) only [g_floor_find_r1, dF]
 obtain ⟨r, h1, h2⟩ := loop
 rw [← hW] at hl ⊢
 unfold g_floor_find
 rw [← hW, h1, Option.bind_some]
 rcases h2 with rfl | ⟨k, hk, rfl⟩
 ·exact ⟨-1, rfl, by omega, by omega⟩
 ·exact ⟨k, rfl, by omega, by omega⟩
structure OkFl (f : FlT) : Prop where
 st : f.1 = 0 ∨ f.1 = 1 ∨ f.1 = 2
 e0 : 0 ≤ f.2.1
 e1 : f.2.1 ≤ 1099511627776
 M : f.2.2.2.2.2.2.2.2.length ≤ 8
 W : f.2.2.2.2.2.2.2.1.length ≤ 4
 wp : ∀ w ∈ f.2.2.2.2.2.2.2.1, 0 < w.1
 idle : f.1 = 0 → f.2.2.1 = 0
 held : f.1 ≠ 0 → 0 < f.2.2.1
theorem ckF1 {M : List Int} {f : FlT} {o : Bool} (hl : M.length ≤ 1000000) : ∃ o', iter g_floor_Check_r1 (o, 0, M, (M.length : Int), 0, f, ()) = some (o', f, ()) ∧ (o' = true → o = true ∧ ∀ m ∈ M, 0 < m) := by
 have loop : ∃ r, iter g_floor_Check_r1 (o, 0, M, (M.length : Int), 0, f, ()) = some r ∧ ∃ o', r = (o', f, ()) ∧ (o' = true → o = true ∧ ∀ m ∈ M, 0 < m) := by
  refine iter_ex (f := g_floor_Check_r1) (fun y => (y.2.2.2.1 - y.2.2.2.2.1).toNat) (fun y => ∃ (i : Nat) (q : Bool) (l : Int), y = (q, l, M, (M.length : Int), (i : Int), f, ()) ∧ i ≤ M.length ∧ (q = true → o = true ∧ 0 ≤ l ∧ ∀ m ∈ M.take i, 0 < m))
   (fun r => ∃ o', r = (o', f, ()) ∧ (o' = true → o = true ∧ ∀ m ∈ M, 0 < m)) ?_ _ ⟨0, o, 0, rfl, Nat.zero_le _, fun h => ⟨h, Int.le_refl _, fun m hm => by simp at hm⟩⟩
  rintro y ⟨i, q, l, rfl, hi, hq⟩
  by_cases h : i < M.length
  ·left
   obtain ⟨m, hm⟩ : ∃ m, M[i]? = some m := ⟨_, List.getElem?_eq_getElem h⟩
   have ht : M.take (i + 1) = M.take i ++ [m] := by rw [List.take_add_one, hm]; rfl
   cases q with
   | false =>
    refine ⟨(false, m, M, (M.length : Int), ((i + 1 : Nat) : Int), f, ()), ?_, ⟨i + 1, false, m, rfl, h, fun h => nomatch h⟩, by simp only; omega⟩
    simp (disch := omega) only [g_floor_Check_r1, dT, wT, Int.toNat_natCast, gD hm, cond_false, wrap_i64, Option.bind_some]
    rfl
   | true =>
    obtain ⟨h1, h2, h3⟩ := hq rfl
    by_cases hlt : m > l
    ·refine ⟨(decide (m ≤ 1073741824), m, M, (M.length : Int), ((i + 1 : Nat) : Int), f, ()), ?_, ⟨i + 1, _, m, rfl, h, fun _ => ⟨h1, by omega, fun u hu => ?_⟩⟩, by simp only; omega⟩
     ·simp (disch := omega) only [g_floor_Check_r1, dT, wT, Int.toNat_natCast, gD hm, cond_true, wrap_i64, Option.bind_some]
      rfl
     ·rw [ht, List.mem_append, List.mem_singleton] at hu
      rcases hu with hu | rfl
      ·exact h3 u hu
      ·omega
    ·refine ⟨(false, m, M, (M.length : Int), ((i + 1 : Nat) : Int), f, ()), ?_, ⟨i + 1, false, m, rfl, h, fun h => nomatch h⟩, by simp only; omega⟩
     simp (disch := omega) only [g_floor_Check_r1, dT, dF, wT, Int.toNat_natCast, gD hm, cond_true, wrap_i64, Option.bind_some]
     rfl
  ·right
   refine ⟨_, ?_, q, rfl, fun h1 => ?_⟩
   ·simp (disch := omega) only [g_floor_Check_r1, dF]
   ·obtain ⟨a, _, c⟩ := hq h1
    rw [List.take_of_length_le (by omega)] at c
    exact ⟨a, c⟩
 obtain ⟨r, h1, o', rfl, h2⟩ := loop
 exact ⟨o', h1, h2⟩
theorem ckF2 {W : List (Int × Int)} {f : FlT} {o : Bool} (hl : W.length ≤ 1000000) (hM : f.2.2.2.2.2.2.2.2.length ≤ 1000000) (hW : f.2.2.2.2.2.2.2.1.length ≤ 1000000) :
  ∃ o', iter g_floor_Check_r2 (o, 7, W, (W.length : Int), 0, f, ()) = some (o', f, ()) ∧ (o' = true → o = true ∧ ∀ w ∈ W, w.1 ∈ f.2.2.2.2.2.2.2.2) := by
 have loop : ∃ r, iter g_floor_Check_r2 (o, 7, W, (W.length : Int), 0, f, ()) = some r ∧ ∃ o', r = (o', f, ()) ∧ (o' = true → o = true ∧ ∀ w ∈ W, w.1 ∈ f.2.2.2.2.2.2.2.2) := by
  refine iter_ex (f := g_floor_Check_r2) (fun y => (y.2.2.2.1 - y.2.2.2.2.1).toNat) (fun y => ∃ (i : Nat) (q : Bool) (l : Int), y = (q, l, W, (W.length : Int), (i : Int), f, ()) ∧ i ≤ W.length ∧ (q = true → o = true ∧ ∀ w ∈ W.take i, w.1 ∈ f.2.2.2.2.2.2.2.2))
   (fun r => ∃ o', r = (o', f, ()) ∧ (o' = true → o = true ∧ ∀ w ∈ W, w.1 ∈ f.2.2.2.2.2.2.2.2)) ?_ _ ⟨0, o, 7, rfl, Nat.zero_le _, fun h => ⟨h, fun m hm => by simp at hm⟩⟩
  rintro y ⟨i, q, l, rfl, hi, hq⟩
  by_cases h : i < W.length
  ·left
   obtain ⟨m, hm⟩ : ∃ m, W[i]? = some m := ⟨_, List.getElem?_eq_getElem h⟩
   have ht : W.take (i + 1) = W.take i ++ [m] := by rw [List.take_add_one, hm]; rfl
   obtain ⟨b, b1, b2⟩ := member_any (f := f) (x := m.1) hM
   obtain ⟨k, k1, k2, k3⟩ := find_any (f := f) (x := m.1) hW
   have go : ∀ (q' : Bool), g_floor_Check_r2 (q, l, W, (W.length : Int), (i : Int), f, ()) = some (.inl (q', m.2, W, (W.length : Int), ((i + 1 : Nat) : Int), f, ())) → (q' = true → q = true ∧ b = true) →
     ∃ y, g_floor_Check_r2 (q, l, W, (W.length : Int), (i : Int), f, ()) = some (.inl y) ∧ (∃ (i : Nat) (q : Bool) (l : Int), y = (q, l, W, (W.length : Int), (i : Int), f, ()) ∧ i ≤ W.length ∧ (q = true → o = true ∧ ∀ w ∈ W.take i, w.1 ∈ f.2.2.2.2.2.2.2.2)) ∧
      (y.2.2.2.1 - y.2.2.2.2.1).toNat < (((q, l, W, (W.length : Int), (i : Int), f, ()) : Bool × Int × List (Int × Int) × Int × Int × FlT × Unit).2.2.2.1 - ((q, l, W, (W.length : Int), (i : Int), f, ()) : Bool × Int × List (Int × Int) × Int × Int × FlT × Unit).2.2.2.2.1).toNat := by
    intro q' e hq'
    refine ⟨_, e, ⟨i + 1, q', m.2, rfl, h, fun hh => ?_⟩, by simp only; omega⟩
    obtain ⟨u1, u2⟩ := hq' hh
    obtain ⟨v1, v2⟩ := hq u1
    refine ⟨v1, fun w hw => ?_⟩
    rw [ht, List.mem_append, List.mem_singleton] at hw
    rcases hw with hw | rfl
    ·exact v2 w hw
    ·exact b2 u2
   cases q with
   | false =>
    refine go false ?_ (fun h => nomatch h)
    simp (disch := omega) only [g_floor_Check_r2, dT, wT, Int.toNat_natCast, gD hm, cond_false, wrap_i64, Option.bind_some]
    rfl
   | true =>
    cases b with
    | false =>
     refine go false ?_ (fun h => nomatch h)
     simp (disch := omega) only [g_floor_Check_r2, dT, wT, Int.toNat_natCast, gD hm, cond_true, cond_false, wrap_i64, Option.bind_some, b1]
     rfl
    | true =>
     by_cases c1 : m.1 = f.2.2.1
     ·refine go false ?_ (fun h => nomatch h)
      simp (disch := omega) only [g_floor_Check_r2, dT, wT, Int.toNat_natCast, gD hm, cond_true, wrap_i64, Option.bind_some, b1, nF c1]
      rfl
     ·cases c2 : (decide (0 ≤ m.2) && decide (m.2 ≤ l)) with
      | false =>
       refine go false ?_ (fun h => nomatch h)
       simp (disch := omega) only [g_floor_Check_r2, dT, wT, Int.toNat_natCast, gD hm, cond_true, cond_false, wrap_i64, Option.bind_some, b1, nT c1, withinF_eq, c2]
       rfl
      | true =>
       refine go (k == (i : Int)) ?_ (fun _ => ⟨rfl, rfl⟩)
       simp (disch := omega) only [g_floor_Check_r2, dT, wT, Int.toNat_natCast, gD hm, cond_true, wrap_i64, Option.bind_some, b1, nT c1, withinF_eq, c2, k1]
       rfl
  ·right
   refine ⟨_, ?_, q, rfl, fun h1 => ?_⟩
   ·simp (disch := omega) only [g_floor_Check_r2, dF]
   ·obtain ⟨a, c⟩ := hq h1
    rw [List.take_of_length_le (by omega)] at c
    exact ⟨a, c⟩
 obtain ⟨r, h1, o', rfl, h2⟩ := loop
 exact ⟨o', h1, h2⟩
end Go.Sq
namespace Go.Sq
open Go.Rx
theorem ckS1 (a0 : FlT) : ∃ c, ((g_floor_within a0.1 2).bind fun y1 =>
 bif y1 then
 (g_floor_within a0.2.1 1099511627776).bind fun y2 =>
 bif y2 then
 (g_floor_within a0.2.2.2.2.2.2.1 1099511627776).bind fun y3 =>
 bif y3 then
 (g_floor_within a0.2.2.2.2.1 2199023255552).bind fun y4 =>
 bif y4 then
 (g_floor_within a0.2.2.2.2.2.1 2199023255552).bind fun y5 =>
 some (y5, a0, ())
 else
 some (false, a0, ())
 else
 some (false, a0, ())
 else
 some (false, a0, ())
 else
 some (false, a0, ()) : Option (Bool × FlT × Unit)) = some (c, a0, ()) ∧ (c = true → 0 ≤ a0.1 ∧ a0.1 ≤ 2 ∧ 0 ≤ a0.2.1 ∧ a0.2.1 ≤ 1099511627776) := by
 simp only [withinF_eq, Option.bind_some]
 cases h1 : (decide (0 ≤ a0.1) && decide (a0.1 ≤ 2)) with
 | false => exact ⟨false, rfl, fun h => nomatch h⟩
 | true =>
  cases h2 : (decide (0 ≤ a0.2.1) && decide (a0.2.1 ≤ 1099511627776)) with
  | false => exact ⟨false, rfl, fun h => nomatch h⟩
  | true =>
   simp only [Bool.and_eq_true, decide_eq_true_eq] at h1 h2
   cases (decide (0 ≤ a0.2.2.2.2.2.2.1) && decide (a0.2.2.2.2.2.2.1 ≤ 1099511627776)) with
   | false => exact ⟨false, rfl, fun h => nomatch h⟩
   | true =>
    cases (decide (0 ≤ a0.2.2.2.2.1) && decide (a0.2.2.2.2.1 ≤ 2199023255552)) with
    | false => exact ⟨false, rfl, fun h => nomatch h⟩
    | true => exact ⟨_, rfl, fun _ => ⟨h1.1, h1.2, h2.1, h2.2⟩⟩
theorem FCheck_any (f : FlT) (hM : f.2.2.2.2.2.2.2.2.length ≤ 1000000) (hW : f.2.2.2.2.2.2.2.1.length ≤ 1000000) : ∃ e : Int, g_floor_Check f = some e ∧ (e = 0 ∨ e = 1) ∧ (e = 0 → OkFl f) := by
 obtain ⟨c, h1, h2⟩ := ckS1 f
 unfold g_floor_Check
 rw [h1, Option.bind_some]
 dsimp only
 have s2 : ∃ c2, (bif c then bif (decide ((f.2.2.2.2.2.2.2.2.length : Int) ≤ 8)) then some ((decide ((f.2.2.2.2.2.2.2.1.length : Int) ≤ 4)), f, ()) else some (false, f, ()) else some (false, f, ()) : Option (Bool × FlT × Unit)) = some (c2, f, ()) ∧
   (c2 = true → c = true ∧ f.2.2.2.2.2.2.2.2.length ≤ 8 ∧ f.2.2.2.2.2.2.2.1.length ≤ 4) := by
  cases c with
  | false => exact ⟨false, rfl, fun h => nomatch h⟩
  | true =>
   by_cases h : (f.2.2.2.2.2.2.2.2.length : Int) ≤ 8
   ·refine ⟨decide ((f.2.2.2.2.2.2.2.1.length : Int) ≤ 4), by rw [cond_true, dT h], fun h' => ?_⟩
    have := of_decide_eq_true h'
    exact ⟨rfl, by omega, by omega⟩
   ·exact ⟨false, by rw [cond_true, dF h], fun h => nomatch h⟩
 obtain ⟨c2, h3, h4⟩ := s2
 rw [h3, Option.bind_some]
 dsimp only
 obtain ⟨c3, h5, h6⟩ := ckF1 (M := f.2.2.2.2.2.2.2.2) (f := f) (o := c2) hM
 rw [h5, Option.bind_some]
 dsimp only
 cases c3 with
 | false => exact ⟨1, rfl, .inr rfl, fun h => by cases h⟩
 | true =>
  obtain ⟨rfl, m1⟩ := h6 rfl
  obtain ⟨rfl, l1, l2⟩ := h4 rfl
  obtain ⟨r1, r2, r3, r4⟩ := h2 rfl
  rw [Bool.not_true, cond_false]
  obtain ⟨c4, h7, h8⟩ := ckF2 (W := f.2.2.2.2.2.2.2.1) (f := f) (o := true) hW hM hW
  rw [h7, Option.bind_some]
  dsimp only
  cases c4 with
  | false =>
   refine ⟨1, ?_, .inr rfl, fun h => by cases h⟩
   by_cases hs : f.1 = 0
   ·rw [eT hs]; rfl
   ·rw [eF hs]; rfl
  | true =>
   obtain ⟨_, w1⟩ := h8 rfl
   have wp : ∀ w ∈ f.2.2.2.2.2.2.2.1, 0 < w.1 := fun w hw => m1 _ (w1 w hw)
   by_cases hs : f.1 = 0
   ·rw [eT hs, cond_true]
    cases hz : ([f.2.2.1, f.2.2.2.1, f.2.2.2.2.1, f.2.2.2.2.2.1] == [0, 0, 0, 0]) with
    | false => exact ⟨1, rfl, .inr rfl, fun h => by cases h⟩
    | true =>
     have hz := beq_iff_eq.1 hz
     simp only [List.cons.injEq] at hz
     cases hl : ((f.2.2.2.2.2.2.2.1.length : Int) == 0) with
     | false => exact ⟨1, by simp only [cond_true, Option.bind_some, hl]; rfl, .inr rfl, fun h => by cases h⟩
     | true => exact ⟨0, by simp only [cond_true, Option.bind_some, hl]; rfl, .inl rfl, fun _ => ⟨.inl hs, r3, r4, l1, l2, wp, fun _ => hz.1, fun h => absurd hs h⟩⟩
   ·rw [eF hs, cond_true]
    obtain ⟨b, b1, b2⟩ := member_any (f := f) (x := f.2.2.1) hM
    rw [b1, Option.bind_some, withinF_eq]
    cases b with
    | false => exact ⟨1, rfl, .inr rfl, fun h => by cases h⟩
    | true =>
     rw [cond_true, Option.bind_some]
     cases (decide (0 ≤ f.2.2.2.1) && decide (f.2.2.2.1 ≤ 7)) with
     | false => exact ⟨1, rfl, .inr rfl, fun h => by cases h⟩
     | true =>
      rw [cond_true]
      cases he : decide (f.2.1 > 0) with
      | false => exact ⟨1, rfl, .inr rfl, fun h => by cases h⟩
      | true => exact ⟨0, rfl, .inl rfl, fun _ => ⟨by omega, r3, r4, l1, l2, wp, fun h => absurd h hs, fun _ => m1 _ (b2 rfl)⟩⟩
end Go.Sq
namespace Go.Sq
open Go.Rx
theorem fG {e h w : Int} {b : Bool} (hw : 0 < w) (h0 : 0 ≤ e) (h1 : e ≤ 1099511627776) : fineT (e, (h, b)) (5, (w, (e + 1, 0))) = (true, (e + 1, (w, false))) := by
 have hr : IntKind.i64.wrap (e + 1) = e + 1 := wrap_i64 (by omega) (by omega)
 unfold fineT
 simp only [beq_self_eq_true, Bool.and_self, Bool.and_true, cond_true, hr]
 rw [dF (by omega)]
theorem fA {e h : Int} (hw : 0 < h) (h0 : 0 ≤ e) (h1 : e ≤ 1099511627776) : fineT (e, (h, false)) (5, (h, (e, 0))) = (true, (e, (h, false))) := by
 have hr : IntKind.i64.wrap (e + 1) = e + 1 := wrap_i64 (by omega) (by omega)
 unfold fineT
 simp only [beq_self_eq_true, Bool.and_self, Bool.and_true, cond_true, hr]
 rw [dF (by omega), eF (by omega)]
 rfl
theorem fR {e h : Int} {b : Bool} (hw : 0 < h) : fineT (e, (h, b)) (8, (h, (e, 0))) = (true, (e, (h, true))) := by
 unfold fineT
 rw [show ((8 : Int) == 5) = false from rfl]
 simp only [Bool.false_and, cond_false, beq_self_eq_true, Bool.and_self, Bool.and_true, cond_true]
 rw [decide_eq_true (show h > 0 from hw)]
 cases b <;> rfl
theorem fI {e h : Int} {b : Bool} (hw : 0 < h) : fineT (e, (h, b)) (10, (0, (e, 0))) = (true, (e, (0, false))) := by
 unfold fineT
 rw [show ((10 : Int) == 5) = false from rfl, show ((10 : Int) == 8) = false from rfl]
 simp only [Bool.false_and, cond_false, beq_self_eq_true, Bool.and_self, Bool.and_true, cond_true]
 rw [decide_eq_true (show h > 0 from hw)]
theorem fQ {e h w p : Int} {b : Bool} (hh : 0 < h) (hw : 0 < w) (hn : w ≠ h) (p1 : 1 ≤ p) (p4 : p ≤ 4) : fineT (e, (h, b)) (7, (w, (0, p))) = (true, (e, (h, b))) := by
 unfold fineT
 rw [show ((7 : Int) == 5) = false from rfl, show ((7 : Int) == 8) = false from rfl, show ((7 : Int) == 10) = false from rfl]
 simp only [Bool.false_and, cond_false, beq_self_eq_true, Bool.and_self, Bool.and_true, cond_true]
 rw [dT (show h > 0 from hh), dT (show w > 0 from hw), nT hn, dT (show p ≥ 1 from p1), decide_eq_true p4]
theorem fD {w : Int} {j : Jd} (hw : 0 < w) : fineT j (6, (w, (0, 0))) = (true, j) := by
 unfold fineT
 rw [show ((6 : Int) == 5) = false from rfl, show ((6 : Int) == 8) = false from rfl, show ((6 : Int) == 10) = false from rfl, show ((6 : Int) == 7) = false from rfl]
 simp only [Bool.false_and, cond_false, beq_self_eq_true, Bool.and_self, Bool.and_true, cond_true]
 rw [decide_eq_true (show w > 0 from hw)]
theorem fW {e h w : Int} {b : Bool} (hw : 0 < w) : fineT (e, (h, b)) (15, (w, (e, 0))) = (true, (e, (h, b))) := by
 unfold fineT
 rw [show ((15 : Int) == 5) = false from rfl, show ((15 : Int) == 8) = false from rfl, show ((15 : Int) == 10) = false from rfl, show ((15 : Int) == 7) = false from rfl, show ((15 : Int) == 6) = false from rfl]
 simp only [Bool.false_and, cond_false, beq_self_eq_true, Bool.and_self, Bool.and_true, cond_true]
 rw [decide_eq_true (show w > 0 from hw)]
def jf (f : FlT) : Jd := (f.2.1, (f.2.2.1, f.1 == 2))
structure StepFl (f g : FlT) (ds : List Dc) : Prop where
 good : goodN (jf f) ds = ds.length
 after : afterJ (jf f) ds = jf g
 hds : heads (jf f) ds = if f.2.1 < g.2.1 then [g.2.2.1] else []
 ep : ((heads (jf f) ds).length : Int) = g.2.1 - f.2.1
 len : ds.length ≤ 3
theorem step0 {f g : FlT} (h : jf g = jf f) : StepFl f g [] := by
 have e : g.2.1 = f.2.1 := congrArg (·.1) h
 exact ⟨rfl, h.symm, by rw [if_neg (by omega)]; rfl, by show ((0 : Nat) : Int) = _; omega, by simp⟩
theorem step1 {f g : FlT} {d : Dc} (h : fineT (jf f) d = (true, jf g)) (he : g.2.1 = f.2.1) : StepFl f g [d] := by
 have hh : heads (jf f) [d] = [] := by
  unfold heads
  rw [h, cond_true, dF (show ¬ (jf g).1 > (jf f).1 by show ¬ g.2.1 > f.2.1; omega)]
  rfl
 exact ⟨by unfold goodN; rw [h]; rfl, by unfold afterJ; rw [h]; rfl, by rw [hh, if_neg (by omega)], by rw [hh]; show ((0 : Nat) : Int) = _; omega, by simp⟩
theorem step1g {f g : FlT} {d : Dc} (h : fineT (jf f) d = (true, jf g)) (he : g.2.1 = f.2.1 + 1) (hw : d.2.1 = g.2.2.1) : StepFl f g [d] := by
 have hh : heads (jf f) [d] = [d.2.1] := by
  unfold heads
  rw [h, cond_true, dT (show (jf g).1 > (jf f).1 by show g.2.1 > f.2.1; omega)]
  rfl
 exact ⟨by unfold goodN; rw [h]; rfl, by unfold afterJ; rw [h]; rfl, by rw [hh, if_pos (by omega), hw], by rw [hh]; show ((1 : Nat) : Int) = _; omega, by simp⟩
theorem stepC {f m g : FlT} {d : Dc} {ds : List Dc} (h : fineT (jf f) d = (true, jf m)) (he : m.2.1 = f.2.1) (hs : StepFl m g ds) (hl : ds.length ≤ 2) : StepFl f g (d :: ds) := by
 have hh : heads (jf f) (d :: ds) = heads (jf m) ds := by
  conv => lhs; unfold heads
  rw [h, cond_true, dF (show ¬ (jf m).1 > (jf f).1 by show ¬ m.2.1 > f.2.1; omega)]
 exact ⟨by unfold goodN; rw [h, cond_true, hs.good]; rfl, by unfold afterJ; rw [h]; exact hs.after, by rw [hh, hs.hds, he], by rw [hh, hs.ep, he], by rw [List.length_cons]; omega⟩
abbrev N12 := Int × Int × Int × Int × Int × Int × Int × Int × Int × Int × Int × Int × Unit
theorem dl1 {W : List (Int × Int)} {x : N12} {M : List Int} {o : List Dc} (hl : W.length ≤ 1000000) :
  ∃ r, iter g_floor_Do_r1 (W, (W.length : Int), 0, x, M, o, ()) = some r ∧ (r = .inl (W, x, M, o, ()) ∨ ∃ k : Nat, k < W.length ∧ r = .inr (W, (k : Int), x, M, o, ())) := by
 refine iter_ex (f := g_floor_Do_r1) (fun y => (y.2.1 - y.2.2.1).toNat) (fun y => ∃ i : Nat, y = (W, (W.length : Int), (i : Int), x, M, o, ()) ∧ i ≤ W.length) (fun r => r = .inl (W, x, M, o, ()) ∨ ∃ k : Nat, k < W.length ∧ r = .inr (W, (k : Int), x, M, o, ())) ?_ _ ⟨0, rfl, Nat.zero_le _⟩
 rintro y ⟨i, rfl, hi⟩
 by_cases h : i < W.length
 ·cases hc : ((W.getD i (0, 0)).1 == x.2.2.2.2.2.2.2.2.1) with
  | true =>
   right
   refine ⟨_, ?_, .inr ⟨i, h, rfl⟩⟩
   simp (disch := omega) only [g_floor_Do_r1, dT, wT, Int.toNat_natCast, hc, cond_true]
  | false =>
   left
   refine ⟨(W, (W.length : Int), ((i + 1 : Nat) : Int), x, M, o, ()), ?_, ⟨i + 1, rfl, h⟩, by simp only; omega⟩
   simp (disch := omega) only [g_floor_Do_r1, dT, wT, Int.toNat_natCast, hc, cond_false, wrap_i64]
   rfl
 ·right
  refine ⟨_, ?_, .inl rfl⟩
  simp (disch := omega) only [g_floor_Do_r1, dF]
theorem dl2 {W : List (Int × Int)} {k : Nat} {x : N12} {M : List Int} {o : List Dc} (hl : W.length ≤ 1000000) (hk : k < W.length) (hp : ∀ w ∈ W, 0 < w.1) :
  ∃ (W' : List (Int × Int)) (i : Nat), iter g_floor_Do_r2 (W, (k : Int), ((k + 1 : Nat) : Int), x, M, o, ()) = some (W', (i : Int), x, M, o, ()) ∧ i ≤ W'.length ∧ W'.length = W.length ∧ ∀ w ∈ W', 0 < w.1 := by
 have loop : ∃ r, iter g_floor_Do_r2 (W, (k : Int), ((k + 1 : Nat) : Int), x, M, o, ()) = some r ∧ ∃ (W' : List (Int × Int)) (i : Nat), r = (W', (i : Int), x, M, o, ()) ∧ i ≤ W'.length ∧ W'.length = W.length ∧ ∀ w ∈ W', 0 < w.1 := by
  refine iter_ex (f := g_floor_Do_r2) (fun y => ((W.length : Int) - y.2.2.1).toNat) (fun y => ∃ (W' : List (Int × Int)) (i j : Nat), y = (W', (i : Int), (j : Int), x, M, o, ()) ∧ i < j ∧ j ≤ W'.length ∧ W'.length = W.length ∧ ∀ w ∈ W', 0 < w.1)
   (fun r => ∃ (W' : List (Int × Int)) (i : Nat), r = (W', (i : Int), x, M, o, ()) ∧ i ≤ W'.length ∧ W'.length = W.length ∧ ∀ w ∈ W', 0 < w.1) ?_ _ ⟨W, k, k + 1, rfl, by omega, hk, rfl, hp⟩
  rintro y ⟨V, i, j, rfl, hij, hj, hV, hq⟩
  by_cases h : j < V.length
  ·have hmem : V.getD j (0, 0) ∈ V := by rw [List.getD_eq_getElem?_getD, List.getElem?_eq_getElem h]; exact List.getElem_mem _
   cases hc : ((V.getD j (0, 0)).1 == x.2.2.2.2.2.2.2.2.1) with
   | true =>
    left
    refine ⟨(V, (i : Int), ((j + 1 : Nat) : Int), x, M, o, ()), ?_, ⟨V, i, j + 1, rfl, by omega, h, hV, hq⟩, by simp only; omega⟩
    simp (disch := omega) only [g_floor_Do_r2, dT, wT, Int.toNat_natCast, hc, Bool.not_true, cond_false, Option.bind_some, wrap_i64]
    rfl
   | false =>
    left
    refine ⟨(V.set i (V.getD j (0, 0)), ((i + 1 : Nat) : Int), ((j + 1 : Nat) : Int), x, M, o, ()), ?_, ⟨_, i + 1, j + 1, rfl, by omega, by rw [List.length_set]; omega, by rw [List.length_set]; exact hV, fun w hw => ?_⟩, by simp only; omega⟩
    ·simp (disch := omega) only [g_floor_Do_r2, dT, wT, Int.toNat_natCast, hc, Bool.not_false, cond_true, Option.bind_some, wrap_i64]
     rfl
    ·rcases List.mem_or_eq_of_mem_set hw with hw | rfl
     ·exact hq w hw
     ·exact hq _ hmem
  ·right
   refine ⟨_, ?_, V, i, rfl, by omega, hV, hq⟩
   simp (disch := omega) only [g_floor_Do_r2, dF]
 obtain ⟨r, h1, W', i, rfl, h2⟩ := loop
 exact ⟨W', i, h1, h2⟩
theorem r41 : g_floor_Do_r4 = g_floor_Do_r1 := rfl
theorem r52 : g_floor_Do_r5 = g_floor_Do_r2 := rfl
end Go.Sq
namespace Go.Sq
open Go.Rx
theorem stepEq {f f' g : FlT} {ds : List Dc} (h : jf f = jf f') (hs : StepFl f g ds) : StepFl f' g ds := by
 have e : f.2.1 = f'.2.1 := congrArg (·.1) h
 obtain ⟨h1, h2, h3, h4, h5⟩ := hs
 rw [h] at h1 h2 h3 h4
 rw [e] at h3 h4
 exact ⟨h1, h2, h3, h4, h5⟩
set_option maxHeartbeats 1000000 in
theorem onF {s e h p u l n a1 : Int} {W : List (Int × Int)} {M : List Int} (h0 : 0 ≤ e) (h1 : e ≤ 1099511627776) (hW : W.length ≤ 4) (hp : ∀ w ∈ W, 0 < w.1) (ha : 0 < a1) :
  ∃ g ds, (bif (h == a1) then
 bif (decide ((W.length : Int) > 0)) then
 bif (within 0 W.length) then
 bif (cutG 1 (W.length : Int) W.length) then
 bif (room 32 (([] : List Dc) ++ [(5, (((W.getD 0 (0, 0))).1, ((IntKind.i64.wrap (e + 1)), 0)))]).length) then
 some ((1, ((IntKind.i64.wrap (e + 1)), (((W.getD 0 (0, 0))).1, (((W.getD 0 (0, 0))).2, ((IntKind.i64.wrap (n + 60)), ((IntKind.i64.wrap (n + 12)), (n, (((W.drop 1).take ((W.length : Int).toNat - 1)), M)))))))), ((([] : List Dc) ++ [(5, (((W.getD 0 (0, 0))).1, ((IntKind.i64.wrap (e + 1)), 0)))]), 0))
 else none
 else none
 else none
 else
 bif (room 32 (([] : List Dc) ++ [(10, (0, (e, 0)))]).length) then
 some ((0, (e, (0, (0, (0, (0, (n, (W, (M))))))))), ((([] : List Dc) ++ [(10, (0, (e, 0)))]), 0))
 else none
 else
 some ((s, (e, (h, (p, (u, (l, (n, (W, (M))))))))), (([] : List Dc), 0)) : Option (FlT × List Dc × Int)) = some (g, (ds, 0)) ∧ StepFl (s, (e, (h, (p, (u, (l, (n, (W, M)))))))) g ds ∧ g.2.2.2.2.2.2.2.1.length ≤ 4 ∧ g.2.2.2.2.2.2.2.2 = M := by
 by_cases hh : h = a1
 ·subst hh
  rw [eT rfl]
  have hr : IntKind.i64.wrap (e + 1) = e + 1 := wrap_i64 (by omega) (by omega)
  cases W with
  | nil =>
   rw [dF (by simp)]
   exact ⟨(0, (e, (0, (0, (0, (0, (n, ([], M)))))))), [(10, (0, (e, 0)))], rfl, step1 (show fineT (e, (h, s == 2)) (10, (0, (e, 0))) = (true, (e, (0, false))) from fI ha) rfl, by simp, rfl⟩
  | cons w W =>
   have hw := hp w List.mem_cons_self
   simp only [List.length_cons] at hW ⊢
   rw [dT (by omega), wT (by omega) (by omega), gT (by omega) (by omega) (by omega), hr]
   exact ⟨(1, (e + 1, (w.1, (w.2, (IntKind.i64.wrap (n + 60), (IntKind.i64.wrap (n + 12), (n, (((w :: W).drop 1).take (((W.length + 1 : Nat) : Int).toNat - 1), M)))))))), [(5, (w.1, (e + 1, 0)))], rfl,
    step1g (show fineT (e, (h, s == 2)) (5, (w.1, (e + 1, 0))) = (true, (e + 1, (w.1, false))) from fG hw h0 h1) rfl rfl, by simp; omega, rfl⟩
 ·rw [eF hh]
  exact ⟨_, _, rfl, step0 rfl, hW, rfl⟩
set_option maxHeartbeats 1000000 in
theorem relF {s e h p u l n a0 a1 a2 a3 a4 : Int} {W : List (Int × Int)} {M : List Int} (h0 : 0 ≤ e) (h1 : e ≤ 1099511627776) (hW : W.length ≤ 4) (hp : ∀ w ∈ W, 0 < w.1) (ha : 0 < a1) :
  ∃ g ds, ((((iter (g_floor_Do_r1) (W, (W.length : Int), 0, (s, e, h, p, u, l, n, a0, a1, a2, a3, a4, ()), M, ([] : List Dc), ())).bind fun j19 => 
 (match j19 with
 | .inl j20 =>
 (some (j20.1, (-1), (j20.2.1.1, j20.2.1.2.1, j20.2.1.2.2.1, j20.2.1.2.2.2.1, j20.2.1.2.2.2.2.1, j20.2.1.2.2.2.2.2.1, j20.2.1.2.2.2.2.2.2.1, j20.2.1.2.2.2.2.2.2.2.1, j20.2.1.2.2.2.2.2.2.2.2.1, j20.2.1.2.2.2.2.2.2.2.2.2.1, j20.2.1.2.2.2.2.2.2.2.2.2.2.1, j20.2.1.2.2.2.2.2.2.2.2.2.2.2.1, ()), j20.2.2.1, j20.2.2.2.1, ()))
 | .inr j21 =>
 (some (j21.1, j21.2.1, (j21.2.2.1.1, j21.2.2.1.2.1, j21.2.2.1.2.2.1, j21.2.2.1.2.2.2.1, j21.2.2.1.2.2.2.2.1, j21.2.2.1.2.2.2.2.2.1, j21.2.2.1.2.2.2.2.2.2.1, j21.2.2.1.2.2.2.2.2.2.2.1, j21.2.2.1.2.2.2.2.2.2.2.2.1, j21.2.2.1.2.2.2.2.2.2.2.2.2.1, j21.2.2.1.2.2.2.2.2.2.2.2.2.2.1, j21.2.2.1.2.2.2.2.2.2.2.2.2.2.2.1, ()), j21.2.2.2.1, j21.2.2.2.2.1, ()))) : Option ((List (Int × Int) × Int × (Int × Int × Int × Int × Int × Int × Int × Int × Int × Int × Int × Int × Unit) × List Int × List (Int × Int × Int × Int) × Unit))).bind fun j22 => 
 bif (j22.2.1 == (-1)) then
 some (((j22.2.2.1.1, (j22.2.2.1.2.1, (j22.2.2.1.2.2.1, (j22.2.2.1.2.2.2.1, (j22.2.2.1.2.2.2.2.1, (j22.2.2.1.2.2.2.2.2.1, (j22.2.2.1.2.2.2.2.2.2.1, (j22.1, j22.2.2.2.1)))))))), ((j22.2.2.1.2.2.2.2.2.2.2.1, (j22.2.2.1.2.2.2.2.2.2.2.2.1, (j22.2.2.1.2.2.2.2.2.2.2.2.2.1, (j22.2.2.1.2.2.2.2.2.2.2.2.2.2.1, j22.2.2.1.2.2.2.2.2.2.2.2.2.2.2.1)))), j22.2.2.2.2.1)), ())
 else
 (iter (g_floor_Do_r2) (j22.1, j22.2.1, (IntKind.i64.wrap (j22.2.1 + 1)), (j22.2.2.1.1, j22.2.2.1.2.1, j22.2.2.1.2.2.1, j22.2.2.1.2.2.2.1, j22.2.2.1.2.2.2.2.1, j22.2.2.1.2.2.2.2.2.1, j22.2.2.1.2.2.2.2.2.2.1, j22.2.2.1.2.2.2.2.2.2.2.1, j22.2.2.1.2.2.2.2.2.2.2.2.1, j22.2.2.1.2.2.2.2.2.2.2.2.2.1, j22.2.2.1.2.2.2.2.2.2.2.2.2.2.1, j22.2.2.1.2.2.2.2.2.2.2.2.2.2.2.1, ()), j22.2.2.2.1, j22.2.2.2.2.1, ())).bind fun j25 => 
 bif (cutG j25.2.1 (j25.1.length : Int) j25.1.length) then
 bif (cutG 0 j25.2.1 ((copyL j25.1 j25.2.1.toNat (List.replicate ((j25.1.length : Int).toNat - j25.2.1.toNat) (0, 0))).length)) then
 some (((j25.2.2.1.1, (j25.2.2.1.2.1, (j25.2.2.1.2.2.1, (j25.2.2.1.2.2.2.1, (j25.2.2.1.2.2.2.2.1, (j25.2.2.1.2.2.2.2.2.1, (j25.2.2.1.2.2.2.2.2.2.1, ((((copyL j25.1 j25.2.1.toNat (List.replicate ((j25.1.length : Int).toNat - j25.2.1.toNat) (0, 0))).drop 0).take (j25.2.1.toNat - 0)), j25.2.2.2.1)))))))), ((j25.2.2.1.2.2.2.2.2.2.2.1, (j25.2.2.1.2.2.2.2.2.2.2.2.1, (j25.2.2.1.2.2.2.2.2.2.2.2.2.1, (j25.2.2.1.2.2.2.2.2.2.2.2.2.2.1, j25.2.2.1.2.2.2.2.2.2.2.2.2.2.2.1)))), j25.2.2.2.2.1)), ())
 else none
 else none : Option ((((Int × Int × Int × Int × Int × Int × Int × List (Int × Int) × List Int) × (Int × Int × Int × Int × Int) × List (Int × Int × Int × Int)) × Unit))).bind fun j26 => 
 bif (j26.1.1.2.2.1 == j26.1.2.1.2.1) then
 bif (decide ((j26.1.1.2.2.2.2.2.2.2.1.length : Int) > 0)) then
 bif (within 0 j26.1.1.2.2.2.2.2.2.2.1.length) then
 bif (cutG 1 (j26.1.1.2.2.2.2.2.2.2.1.length : Int) j26.1.1.2.2.2.2.2.2.2.1.length) then
 bif (room 32 (j26.1.2.2 ++ [(5, (((j26.1.1.2.2.2.2.2.2.2.1.getD 0 (0, 0))).1, ((IntKind.i64.wrap (j26.1.1.2.1 + 1)), 0)))]).length) then
 some ((1, ((IntKind.i64.wrap (j26.1.1.2.1 + 1)), (((j26.1.1.2.2.2.2.2.2.2.1.getD 0 (0, 0))).1, (((j26.1.1.2.2.2.2.2.2.2.1.getD 0 (0, 0))).2, ((IntKind.i64.wrap (j26.1.1.2.2.2.2.2.2.1 + 60)), ((IntKind.i64.wrap (j26.1.1.2.2.2.2.2.2.1 + 12)), (j26.1.1.2.2.2.2.2.2.1, (((j26.1.1.2.2.2.2.2.2.2.1.drop 1).take ((j26.1.1.2.2.2.2.2.2.2.1.length : Int).toNat - 1)), j26.1.1.2.2.2.2.2.2.2.2)))))))), ((j26.1.2.2 ++ [(5, (((j26.1.1.2.2.2.2.2.2.2.1.getD 0 (0, 0))).1, ((IntKind.i64.wrap (j26.1.1.2.1 + 1)), 0)))]), 0))
 else none
 else none
 else none
 else
 bif (room 32 (j26.1.2.2 ++ [(10, (0, (j26.1.1.2.1, 0)))]).length) then
 some ((0, (j26.1.1.2.1, (0, (0, (0, (0, j26.1.1.2.2.2.2.2.2)))))), ((j26.1.2.2 ++ [(10, (0, (j26.1.1.2.1, 0)))]), 0))
 else none
 else
 some (j26.1.1, (j26.1.2.2, 0)) : Option (FlT × List Dc × Int)) = some (g, (ds, 0)) ∧ StepFl (s, (e, (h, (p, (u, (l, (n, (W, M)))))))) g ds ∧ g.2.2.2.2.2.2.2.1.length ≤ 4 ∧ g.2.2.2.2.2.2.2.2 = M := by
 obtain ⟨r, r1, r2⟩ := dl1 (W := W) (x := (s, e, h, p, u, l, n, a0, a1, a2, a3, a4, ())) (M := M) (o := []) (by omega)
 rw [r1, Option.bind_some]
 rcases r2 with rfl | ⟨k, hk, rfl⟩
 ·dsimp only
  rw [Option.bind_some]
  dsimp only
  rw [eT rfl, Option.bind_some]
  exact onF h0 h1 hW hp ha
 ·dsimp only
  rw [Option.bind_some]
  dsimp only
  obtain ⟨V, i, v1, v2, v3, v4⟩ := dl2 (W := W) (k := k) (x := (s, e, h, p, u, l, n, a0, a1, a2, a3, a4, ())) (M := M) (o := []) (by omega) hk hp
  rw [eF (by omega), show IntKind.i64.wrap ((k : Int) + 1) = ((k + 1 : Nat) : Int) by rw [wrap_i64 (by omega) (by omega)]; rfl, v1, Option.bind_some]
  dsimp only
  rw [gT (by omega) (by omega) (by omega), Int.toNat_natCast, gT (by omega) (by omega) (by
   unfold copyL
   simp only [List.length_append, List.length_take]
   omega), Option.bind_some]
  dsimp only
  have hV : ((copyL V i (List.replicate ((V.length : Int).toNat - i) (0, 0))).drop 0).take (i - 0) = V.take i := by
   unfold copyL
   rw [List.drop_zero, Nat.sub_zero, List.take_append_of_le_length (by rw [List.length_take]; omega), List.take_take, Nat.min_self]
  rw [hV]
  obtain ⟨g, ds, q1, q2, q3⟩ := onF (s := s) (h := h) (p := p) (u := u) (l := l) (n := n) (W := V.take i) (M := M) h0 h1 (by rw [List.length_take]; omega) (fun w hw => v4 w (List.mem_of_mem_take hw)) ha
  exact ⟨g, ds, q1, stepEq (show jf (s, (e, (h, (p, (u, (l, (n, (V.take i, M)))))))) = jf (s, (e, (h, (p, (u, (l, (n, (W, M)))))))) from rfl) q2, q3⟩
end Go.Sq
namespace Go.Sq
open Go.Rx
theorem insT_eq {A : Type} {b : Nat} {l v : List A} {i : Nat} (h1 : i ≤ l.length) (h2 : 0 < v.length) (h3 : (l.length + v.length) * b ≤ 140737488355328) : insT b l (i : Int) v = some (l.take i ++ (v ++ l.drop i)) := by
 unfold insT
 rw [decide_eq_true (by omega), decide_eq_true (by omega), decide_eq_true h2, room_iff.2 h3, Int.toNat_natCast]
 rfl
theorem delT_eq {A : Type} {b : Nat} {l : List A} {i j : Nat} (h1 : i ≤ j) (h2 : j ≤ l.length) (h3 : l.length * b ≤ 140737488355328) : delT b l (i : Int) (j : Int) = some (l.take i ++ l.drop j) := by
 unfold delT
 rw [decide_eq_true (by omega), decide_eq_true (by omega), decide_eq_true (by omega), room_iff.2 h3, Int.toNat_natCast, Int.toNat_natCast]
 rfl
theorem dl3 {W : List (Int × Int)} {x : Int × Int} (hl : W.length ≤ 1000000) :
  ∃ r, iter g_floor_Do_r3 (W, (W.length : Int), 0, x, ()) = some r ∧ (r = .inl (W, x, ()) ∨ ∃ k : Nat, k < W.length ∧ r = .inr (W, (k : Int), x, ())) := by
 refine iter_ex (f := g_floor_Do_r3) (fun y => (y.2.1 - y.2.2.1).toNat) (fun y => ∃ i : Nat, y = (W, (W.length : Int), (i : Int), x, ()) ∧ i ≤ W.length) (fun r => r = .inl (W, x, ()) ∨ ∃ k : Nat, k < W.length ∧ r = .inr (W, (k : Int), x, ())) ?_ _ ⟨0, rfl, Nat.zero_le _⟩
 rintro y ⟨i, rfl, hi⟩
 by_cases h : i < W.length
 ·by_cases hc : (W.getD i (0, 0)).2 < x.2
  ·right
   refine ⟨_, ?_, .inr ⟨i, h, rfl⟩⟩
   simp (disch := omega) only [g_floor_Do_r3, dT, wT, Int.toNat_natCast]
  ·left
   refine ⟨(W, (W.length : Int), ((i + 1 : Nat) : Int), x, ()), ?_, ⟨i + 1, rfl, h⟩, by simp only; omega⟩
   simp (disch := omega) only [g_floor_Do_r3, dT, dF, wT, Int.toNat_natCast, wrap_i64]
   rfl
 ·right
  refine ⟨_, ?_, .inl rfl⟩
  simp (disch := omega) only [g_floor_Do_r3, dF]
theorem cloneW {W : List (Int × Int)} (h : W.length ≤ 1000000) : g_slices_Clone_Sapi_Waiter_api_Waiter W = some W := by
 unfold g_slices_Clone_Sapi_Waiter_api_Waiter
 rw [List.nil_append, room_iff.2 (by omega), cond_true]
theorem cloneM {M : List Int} (h : M.length ≤ 1000000) : g_slices_Clone_Sint_int M = some M := by
 unfold g_slices_Clone_Sint_int
 rw [List.nil_append, room_iff.2 (by omega), cond_true]
def DoOK (f : FlT) (a : Int × Int × Int × Int × Int) : Prop :=
 ∃ g ds r, g_floor_Do f a = some (g, (ds, r)) ∧ (r = 0 → StepFl f g ds ∧ g.2.2.2.2.2.2.2.1.length ≤ 10 ∧ g.2.2.2.2.2.2.2.2.length ≤ 10)
section
variable {s e h p u l n a1 a2 a3 a4 : Int} {W : List (Int × Int)} {M : List Int}
set_option maxHeartbeats 4000000 in
theorem do1 (hW : W.length ≤ 1000) (hM : M.length ≤ 1000) : DoOK (s, (e, (h, (p, (u, (l, (n, (W, M)))))))) (1, (a1, (a2, (a3, a4)))) := by
 obtain ⟨y, c1, _, c3⟩ := FCheck_any (s, (e, (h, (p, (u, (l, (n, (W, M)))))))) (show M.length ≤ 1000000 by omega) (show W.length ≤ 1000000 by omega)
 unfold DoOK g_floor_Do
 dsimp only
 rw [cloneW (by omega), Option.bind_some, cloneM (by omega), Option.bind_some, dT rfl, c1, Option.bind_some, eF (by decide), eF (by decide)]
 by_cases hy : ¬ y = 0
 ·rw [eF hy, Option.bind_some]
  exact ⟨_, _, 1, rfl, fun h => absurd h (by decide)⟩
 have hy := Decidable.of_not_not hy
 rw [eT hy]
 by_cases ha : ¬ a1 > 0
 ·rw [dF ha, Option.bind_some]
  exact ⟨_, _, 1, rfl, fun h => absurd h (by decide)⟩
 have ha := Decidable.of_not_not ha
 rw [dT ha, Option.bind_some]
 dsimp only
 by_cases hb : ¬ a1 ≤ 1073741824
 ·rw [decide_eq_false hb]
  exact ⟨_, _, 1, rfl, fun h => absurd h (by decide)⟩
 have hb := Decidable.of_not_not hb
 rw [decide_eq_true hb, Bool.not_true, cond_false]
 obtain ⟨o1, o2, o3, o4, o5, o6, o7, o8⟩ := c3 hy
 have o4 : M.length ≤ 8 := o4
 have o5 : W.length ≤ 4 := o5
 obtain ⟨i, b, b1, b2, b3⟩ := bs_any (l := M) (x := a1) (by omega)
 rw [b1, Option.bind_some]
 cases b with
 | true =>
  exact ⟨(s, (e, (h, (p, (u, (l, (n, (W, M)))))))), [(15, (a1, (e, 0)))], 0, rfl, fun _ => ⟨step1 (show fineT (e, (h, s == 2)) (15, (a1, (e, 0))) = (true, (e, (h, s == 2))) from fW ha) rfl, show W.length ≤ 10 by omega, show M.length ≤ 10 by omega⟩⟩
 | false =>
  dsimp only
  rw [Bool.not_false, cond_true, Option.bind_some]
  dsimp only
  by_cases h8 : (M.length : Int) ≥ 8
  ·rw [dT h8]
   exact ⟨(s, (e, (h, (p, (u, (l, (n, (W, M)))))))), [(6, (a1, (0, 0)))], 0, rfl, fun _ => ⟨step1 (show fineT (e, (h, s == 2)) (6, (a1, (0, 0))) = (true, (e, (h, s == 2))) from fD ha) rfl, show W.length ≤ 10 by omega, show M.length ≤ 10 by omega⟩⟩
  ·rw [dF h8, Bool.not_false, cond_true]
   unfold g_slices_InsertT_Sint_int
   rw [insT_eq b2 (by simp) (by simp; omega), Option.bind_some]
   exact ⟨(s, (e, (h, (p, (u, (l, (n, (W, M.take i ++ ([a1] ++ M.drop i))))))))), [(15, (a1, (e, 0)))], 0, rfl, fun _ => ⟨step1 (show fineT (e, (h, s == 2)) (15, (a1, (e, 0))) = (true, (e, (h, s == 2))) from fW ha) rfl, show W.length ≤ 10 by omega, by
    show (M.take i ++ ([a1] ++ M.drop i)).length ≤ 10
    simp; omega⟩⟩
end
end Go.Sq
namespace Go.Sq
open Go.Rx
variable {s e h p u l n a1 a2 a3 a4 : Int} {W : List (Int × Int)} {M : List Int}
set_option maxHeartbeats 4000000 in
theorem do2 (hW : W.length ≤ 1000) (hM : M.length ≤ 1000) : DoOK (s, (e, (h, (p, (u, (l, (n, (W, M)))))))) (2, (a1, (a2, (a3, a4)))) := by
 obtain ⟨y, c1, _, c3⟩ := FCheck_any (s, (e, (h, (p, (u, (l, (n, (W, M)))))))) (show M.length ≤ 1000000 by omega) (show W.length ≤ 1000000 by omega)
 unfold DoOK g_floor_Do
 dsimp only
 rw [cloneW (by omega), Option.bind_some, cloneM (by omega), Option.bind_some, dF (by decide), dT rfl, c1, Option.bind_some]
 rw [eF (by decide), eF (by decide)]
 by_cases hy : ¬ y = 0
 ·rw [eF hy, Option.bind_some]
  exact ⟨_, _, 1, rfl, fun h => absurd h (by decide)⟩
 have hy := Decidable.of_not_not hy
 rw [eT hy]
 by_cases ha : ¬ a1 > 0
 ·rw [dF ha, Option.bind_some]
  exact ⟨_, _, 1, rfl, fun h => absurd h (by decide)⟩
 have ha := Decidable.of_not_not ha
 rw [dT ha, Option.bind_some]
 dsimp only
 by_cases hb : ¬ a1 ≤ 1073741824
 ·rw [decide_eq_false hb]
  exact ⟨_, _, 1, rfl, fun h => absurd h (by decide)⟩
 have hb := Decidable.of_not_not hb
 rw [decide_eq_true hb, Bool.not_true, cond_false]
 obtain ⟨o1, o2, o3, o4, o5, o6, o7, o8⟩ := c3 hy
 have o1 : s = 0 ∨ s = 1 ∨ s = 2 := o1
 have o2 : 0 ≤ e := o2
 have o3 : e ≤ 1099511627776 := o3
 have o4 : M.length ≤ 8 := o4
 have o5 : W.length ≤ 4 := o5
 have o6 : ∀ w ∈ W, 0 < w.1 := o6
 have o7 : s = 0 → h = 0 := o7
 have o8 : s ≠ 0 → 0 < h := o8
 obtain ⟨i, b, b1, b2, b3⟩ := bs_any (l := M) (x := a1) (by omega)
 rw [b1, Option.bind_some]
 cases b with
 | false => exact ⟨(s, (e, (h, (p, (u, (l, (n, (W, M)))))))), [], 0, rfl, fun _ => ⟨step0 rfl, show W.length ≤ 10 by omega, show M.length ≤ 10 by omega⟩⟩
 | true =>
  have hi := (b3 rfl).1
  dsimp only
  rw [Bool.not_true, cond_false, show IntKind.i64.wrap ((i : Int) + 1) = ((i + 1 : Nat) : Int) by rw [wrap_i64 (by omega) (by omega)]; rfl]
  unfold g_slices_Delete_Sint_int
  rw [delT_eq (by omega) (by omega) (by omega), Option.bind_some]
  obtain ⟨g, ds, q1, q2, q3, q4⟩ := relF (s := s) (h := h) (p := p) (u := u) (l := l) (n := n) (a0 := 2) (a2 := a2) (a3 := a3) (a4 := a4) (M := M.take i ++ M.drop (i + 1)) o2 o3 o5 o6 ha
  refine ⟨g, ds, 0, q1, fun _ => ⟨stepEq (show jf (s, (e, (h, (p, (u, (l, (n, (W, M.take i ++ M.drop (i + 1))))))))) = jf (s, (e, (h, (p, (u, (l, (n, (W, M)))))))) from rfl) q2, by omega, ?_⟩⟩
  rw [q4]; simp; omega
set_option maxHeartbeats 4000000 in
theorem do4 (hW : W.length ≤ 1000) (hM : M.length ≤ 1000) : DoOK (s, (e, (h, (p, (u, (l, (n, (W, M)))))))) (4, (a1, (a2, (a3, a4)))) := by
 obtain ⟨y, c1, _, c3⟩ := FCheck_any (s, (e, (h, (p, (u, (l, (n, (W, M)))))))) (show M.length ≤ 1000000 by omega) (show W.length ≤ 1000000 by omega)
 unfold DoOK g_floor_Do
 dsimp only
 rw [cloneW (by omega), Option.bind_some, cloneM (by omega), Option.bind_some, dF (by decide), dF (by decide), dF (by decide), dT rfl, c1, Option.bind_some]
 rw [eF (by decide), eF (by decide)]
 by_cases hy : ¬ y = 0
 ·rw [eF hy, Option.bind_some]
  exact ⟨_, _, 1, rfl, fun h => absurd h (by decide)⟩
 have hy := Decidable.of_not_not hy
 rw [eT hy]
 by_cases ha : ¬ a1 > 0
 ·rw [dF ha, Option.bind_some]
  exact ⟨_, _, 1, rfl, fun h => absurd h (by decide)⟩
 have ha := Decidable.of_not_not ha
 rw [dT ha, Option.bind_some]
 dsimp only
 by_cases hb : ¬ a1 ≤ 1073741824
 ·rw [decide_eq_false hb]
  exact ⟨_, _, 1, rfl, fun h => absurd h (by decide)⟩
 have hb := Decidable.of_not_not hb
 rw [decide_eq_true hb, Bool.not_true, cond_false]
 obtain ⟨o1, o2, o3, o4, o5, o6, o7, o8⟩ := c3 hy
 have o1 : s = 0 ∨ s = 1 ∨ s = 2 := o1
 have o2 : 0 ≤ e := o2
 have o3 : e ≤ 1099511627776 := o3
 have o4 : M.length ≤ 8 := o4
 have o5 : W.length ≤ 4 := o5
 have o6 : ∀ w ∈ W, 0 < w.1 := o6
 have o7 : s = 0 → h = 0 := o7
 have o8 : s ≠ 0 → 0 < h := o8
 rw [r41, r52]
 obtain ⟨g, ds, q1, q2, q3, q4⟩ := relF (s := s) (h := h) (p := p) (u := u) (l := l) (n := n) (a0 := 4) (a2 := a2) (a3 := a3) (a4 := a4) (M := M) o2 o3 o5 o6 ha
 exact ⟨g, ds, 0, q1, fun _ => ⟨q2, by omega, by rw [q4]; omega⟩⟩
set_option maxHeartbeats 4000000 in
theorem do5 (hW : W.length ≤ 1000) (hM : M.length ≤ 1000) : DoOK (s, (e, (h, (p, (u, (l, (n, (W, M)))))))) (5, (a1, (a2, (a3, a4)))) := by
 obtain ⟨y, c1, _, c3⟩ := FCheck_any (s, (e, (h, (p, (u, (l, (n, (W, M)))))))) (show M.length ≤ 1000000 by omega) (show W.length ≤ 1000000 by omega)
 unfold DoOK g_floor_Do
 dsimp only
 rw [cloneW (by omega), Option.bind_some, cloneM (by omega), Option.bind_some, dF (by decide), dF (by decide), dF (by decide), dF (by decide), dT rfl, c1, Option.bind_some]
 rw [eF (by decide), eF (by decide)]
 by_cases hy : ¬ y = 0
 ·rw [eF hy, Option.bind_some]
  exact ⟨_, _, 1, rfl, fun h => absurd h (by decide)⟩
 have hy := Decidable.of_not_not hy
 rw [eT hy]
 by_cases ha : ¬ a1 > 0
 ·rw [dF ha, Option.bind_some]
  exact ⟨_, _, 1, rfl, fun h => absurd h (by decide)⟩
 have ha := Decidable.of_not_not ha
 rw [dT ha, Option.bind_some]
 dsimp only
 by_cases hb : ¬ a1 ≤ 1073741824
 ·rw [decide_eq_false hb]
  exact ⟨_, _, 1, rfl, fun h => absurd h (by decide)⟩
 have hb := Decidable.of_not_not hb
 rw [decide_eq_true hb, Bool.not_true, cond_false]
 obtain ⟨o1, o2, o3, o4, o5, o6, o7, o8⟩ := c3 hy
 have o1 : s = 0 ∨ s = 1 ∨ s = 2 := o1
 have o2 : 0 ≤ e := o2
 have o3 : e ≤ 1099511627776 := o3
 have o4 : M.length ≤ 8 := o4
 have o5 : W.length ≤ 4 := o5
 have o6 : ∀ w ∈ W, 0 < w.1 := o6
 have o7 : s = 0 → h = 0 := o7
 have o8 : s ≠ 0 → 0 < h := o8
 have fin : ∀ q : Bool, ∃ g ds r, (bif q then some ((s, (e, (h, (p, (u, (IntKind.i64.wrap (n + 12), (n, (W, M)))))))), ([], 0)) else some ((s, (e, (h, (p, (u, (l, (n, (W, M)))))))), ([], 0)) : Option (FlT × List Dc × Int)) = some (g, (ds, r)) ∧
   (r = 0 → StepFl (s, (e, (h, (p, (u, (l, (n, (W, M)))))))) g ds ∧ g.2.2.2.2.2.2.2.1.length ≤ 10 ∧ g.2.2.2.2.2.2.2.2.length ≤ 10) := fun q => by
  cases q with
  | false => exact ⟨_, _, 0, rfl, fun _ => ⟨step0 rfl, show W.length ≤ 10 by omega, show M.length ≤ 10 by omega⟩⟩
  | true => exact ⟨_, _, 0, rfl, fun _ => ⟨step0 rfl, show W.length ≤ 10 by omega, show M.length ≤ 10 by omega⟩⟩
 by_cases h1 : s = 1
 ·rw [eT h1]
  by_cases h2 : h = a1
  ·rw [eT h2, Option.bind_some]
   exact fin _
  ·rw [eF h2, Option.bind_some]
   exact fin false
 ·rw [eF h1, Option.bind_some]
  exact fin false
end Go.Sq
namespace Go.Sq
open Go.Rx
variable {s e h p u l n a1 a2 a3 a4 : Int} {W : List (Int × Int)} {M : List Int}
set_option maxHeartbeats 4000000 in
theorem do3 (hW : W.length ≤ 1000) (hM : M.length ≤ 1000) : DoOK (s, (e, (h, (p, (u, (l, (n, (W, M)))))))) (3, (a1, (a2, (a3, a4)))) := by
 obtain ⟨y, c1, _, c3⟩ := FCheck_any (s, (e, (h, (p, (u, (l, (n, (W, M)))))))) (show M.length ≤ 1000000 by omega) (show W.length ≤ 1000000 by omega)
 unfold DoOK g_floor_Do
 dsimp only
 rw [cloneW (by omega), Option.bind_some, cloneM (by omega), Option.bind_some, dF (by decide), dF (by decide), dT rfl, c1, Option.bind_some]
 rw [eF (by decide), eT rfl]
 by_cases hy : ¬ y = 0
 ·rw [eF hy, Option.bind_some]
  exact ⟨_, _, 1, rfl, fun h => absurd h (by decide)⟩
 have hy := Decidable.of_not_not hy
 rw [eT hy, withinF_eq, Option.bind_some]
 cases hq : (decide (0 ≤ a2) && decide (a2 ≤ 7)) with
 | false => exact ⟨_, _, 1, rfl, fun h => absurd h (by decide)⟩
 | true =>
 rw [cond_true]
 by_cases ha : ¬ a1 > 0
 ·rw [dF ha, Option.bind_some]
  exact ⟨_, _, 1, rfl, fun h => absurd h (by decide)⟩
 have ha := Decidable.of_not_not ha
 rw [dT ha, Option.bind_some]
 dsimp only
 by_cases hb : ¬ a1 ≤ 1073741824
 ·rw [decide_eq_false hb]
  exact ⟨_, _, 1, rfl, fun h => absurd h (by decide)⟩
 have hb := Decidable.of_not_not hb
 rw [decide_eq_true hb, Bool.not_true, cond_false]
 obtain ⟨o1, o2, o3, o4, o5, o6, o7, o8⟩ := c3 hy
 have o1 : s = 0 ∨ s = 1 ∨ s = 2 := o1
 have o2 : 0 ≤ e := o2
 have o3 : e ≤ 1099511627776 := o3
 have o4 : M.length ≤ 8 := o4
 have o5 : W.length ≤ 4 := o5
 have o6 : ∀ w ∈ W, 0 < w.1 := o6
 have o7 : s = 0 → h = 0 := o7
 have o8 : s ≠ 0 → 0 < h := o8
 obtain ⟨k, k1, k2, k3⟩ := find_any (f := (s, (e, (h, (p, (u, (l, (n, (W, M))))))))) (x := a1) (show W.length ≤ 1000000 by omega)
 have k3 : k < (W.length : Int) := k3
 obtain ⟨b, b1, b2⟩ := member_any (f := (s, (e, (h, (p, (u, (l, (n, (W, M))))))))) (x := a1) (show M.length ≤ 1000000 by omega)
 rw [k1, Option.bind_some, b1, Option.bind_some]
 have wk : IntKind.i64.wrap (k + 1) = k + 1 := wrap_i64 (by omega) (by omega)
 have we : IntKind.i64.wrap (e + 1) = e + 1 := wrap_i64 (by omega) (by omega)
 cases b with
 | false => exact ⟨(s, (e, (h, (p, (u, (l, (n, (W, M)))))))), [(6, (a1, (0, 0)))], 0, rfl, fun _ => ⟨step1 (show fineT (e, (h, s == 2)) (6, (a1, (0, 0))) = (true, (e, (h, s == 2))) from fD ha) rfl, show W.length ≤ 10 by omega, show M.length ≤ 10 by omega⟩⟩
 | true =>
 rw [Bool.not_true, cond_false]
 by_cases hs0 : s = 0
 ·rw [eT hs0, we]
  exact ⟨(1, (e + 1, (a1, (a2, (IntKind.i64.wrap (n + 60), (IntKind.i64.wrap (n + 12), (n, (W, M)))))))), [(5, (a1, (e + 1, 0)))], 0, rfl,
   fun _ => ⟨step1g (show fineT (e, (h, s == 2)) (5, (a1, (e + 1, 0))) = (true, (e + 1, (a1, false))) from fG ha o2 o3) rfl rfl, show W.length ≤ 10 by omega, show M.length ≤ 10 by omega⟩⟩
 rw [eF hs0]
 have hh := o8 hs0
 by_cases hw : h = a1
 ·rw [eT hw, Option.bind_some]
  dsimp only
  by_cases hs1 : s = 1
  ·subst hs1
   rw [eT rfl]
   exact ⟨_, [(5, (a1, (e, 0)))], 0, rfl, fun _ => ⟨step1 (show fineT (e, (h, false)) (5, (a1, (e, 0))) = (true, (e, (h, false))) by rw [← hw]; exact fA hh o2 o3) rfl, show W.length ≤ 10 by omega, show M.length ≤ 10 by omega⟩⟩
  ·rw [eF hs1, eT hw]
   have hs2 : s = 2 := by omega
   subst hs2
   exact ⟨_, [(8, (a1, (e, 0)))], 0, rfl, fun _ => ⟨step1 (show fineT (e, (h, true)) (8, (a1, (e, 0))) = (true, (e, (h, true))) by rw [← hw]; exact fR hh) rfl, show W.length ≤ 10 by omega, show M.length ≤ 10 by omega⟩⟩
 rw [eF hw, Option.bind_some]
 dsimp only
 rw [cond_false, eF hw, wk]
 by_cases hk : k ≥ 0
 ·rw [dT hk]
  exact ⟨_, [(7, (a1, (0, k + 1)))], 0, rfl, fun _ => ⟨step1 (show fineT (e, (h, s == 2)) (7, (a1, (0, k + 1))) = (true, (e, (h, s == 2))) from fQ hh ha (fun e => hw e.symm) (by omega) (by omega)) rfl, show W.length ≤ 10 by omega, show M.length ≤ 10 by omega⟩⟩
 rw [dF hk]
 by_cases h4 : (W.length : Int) ≥ 4
 ·rw [dT h4]
  exact ⟨(s, (e, (h, (p, (u, (l, (n, (W, M)))))))), [(6, (a1, (0, 0)))], 0, rfl, fun _ => ⟨step1 (show fineT (e, (h, s == 2)) (6, (a1, (0, 0))) = (true, (e, (h, s == 2))) from fD ha) rfl, show W.length ≤ 10 by omega, show M.length ≤ 10 by omega⟩⟩
 rw [dF h4]
 obtain ⟨r, r1, r2⟩ := dl3 (W := W) (x := (a1, a2)) (by omega)
 rw [r1, Option.bind_some]
 have fin : ∀ i : Nat, i ≤ W.length → ∃ g ds r, ((g_slices_Insert_Sapi_Waiter_api_Waiter W (i : Int) [(a1, a2)]).bind fun y30 =>
   bif room 32 (([] : List Dc) ++ [(7, (a1, (0, IntKind.i64.wrap ((i : Int) + 1))))]).length then
   (bif (s == 1) then
   some ((a1, a2), (decide (p < a2)), ((s, (e, (h, (p, (u, (l, (n, (y30, M)))))))), ((3, (a1, (a2, (a3, a4)))), (([] : List Dc) ++ [(7, (a1, (0, IntKind.i64.wrap ((i : Int) + 1))))]))), ())
   else
   some ((a1, a2), false, ((s, (e, (h, (p, (u, (l, (n, (y30, M)))))))), ((3, (a1, (a2, (a3, a4)))), (([] : List Dc) ++ [(7, (a1, (0, IntKind.i64.wrap ((i : Int) + 1))))]))), ()) : Option ((Int × Int) × Bool × (FlT × (Int × Int × Int × Int × Int) × List Dc) × Unit)).bind fun j31 =>
   bif j31.2.1 then
   bif room 32 (j31.2.2.1.2.2 ++ [(8, (j31.2.2.1.1.2.2.1, (j31.2.2.1.1.2.1, 0)))]).length then
   some ((2, j31.2.2.1.1.2), ((j31.2.2.1.2.2 ++ [(8, (j31.2.2.1.1.2.2.1, (j31.2.2.1.1.2.1, 0)))]), 0))
   else none
   else
   some (j31.2.2.1.1, (j31.2.2.1.2.2, 0))
   else none : Option (FlT × List Dc × Int)) = some (g, (ds, r)) ∧ (r = 0 → StepFl (s, (e, (h, (p, (u, (l, (n, (W, M)))))))) g ds ∧ g.2.2.2.2.2.2.2.1.length ≤ 10 ∧ g.2.2.2.2.2.2.2.2.length ≤ 10) := fun i hi => by
  unfold g_slices_Insert_Sapi_Waiter_api_Waiter
  rw [insT_eq hi (by simp) (by simp; omega), Option.bind_some, show IntKind.i64.wrap ((i : Int) + 1) = (i : Int) + 1 from wrap_i64 (by omega) (by omega)]
  obtain ⟨V, hV⟩ : ∃ V, V = W.take i ++ ([(a1, a2)] ++ W.drop i) := ⟨_, rfl⟩
  have hVl : V.length ≤ 10 := by rw [hV]; simp; omega
  rw [← hV]
  have q1 : fineT (e, (h, s == 2)) (7, (a1, (0, (i : Int) + 1))) = (true, (e, (h, s == 2))) := fQ hh ha (fun e => hw e.symm) (by omega) (by omega)
  have rm : ∀ d : Dc, room 32 (([] : List Dc) ++ [d]).length = true := fun _ => rfl
  have no : ∃ g ds r, (some ((s, (e, (h, (p, (u, (l, (n, (V, M)))))))), ([(7, (a1, (0, (i : Int) + 1)))], 0)) : Option (FlT × List Dc × Int)) = some (g, (ds, r)) ∧ (r = 0 → StepFl (s, (e, (h, (p, (u, (l, (n, (W, M)))))))) g ds ∧ g.2.2.2.2.2.2.2.1.length ≤ 10 ∧ g.2.2.2.2.2.2.2.2.length ≤ 10) :=
   ⟨_, _, _, rfl, fun _ => ⟨step1 (show fineT (e, (h, s == 2)) (7, (a1, (0, (i : Int) + 1))) = (true, (e, (h, s == 2))) from q1) rfl, hVl, show M.length ≤ 10 by omega⟩⟩
  by_cases hs1 : s = 1
  ·subst hs1
   by_cases hp : p < a2
   ·rw [rm, cond_true, eT rfl, decide_eq_true hp]
    exact ⟨(2, (e, (h, (p, (u, (l, (n, (V, M)))))))), [(7, (a1, (0, (i : Int) + 1))), (8, (h, (e, 0)))], 0, rfl, fun _ => ⟨stepC (m := (1, (e, (h, (p, (u, (l, (n, (W, M))))))))) q1 rfl (step1 (show fineT (e, (h, false)) (8, (h, (e, 0))) = (true, (e, (h, true))) from fR hh) rfl) (by simp), hVl, show M.length ≤ 10 by omega⟩⟩
   ·rw [rm, cond_true, eT rfl, decide_eq_false hp]
    exact no
  ·rw [rm, cond_true, eF hs1]
   exact no
 rcases r2 with rfl | ⟨i, hi, rfl⟩
 ·dsimp only
  rw [Option.bind_some]
  dsimp only
  rw [dT (by decide), Option.bind_some]
  exact fin W.length (Nat.le_refl _)
 ·dsimp only
  rw [Option.bind_some]
  dsimp only
  rw [dF (by omega), Option.bind_some]
  exact fin i (by omega)
end Go.Sq
namespace Go.Sq
open Go.Rx
variable {s e h p u l n a1 a2 a3 a4 : Int} {W : List (Int × Int)} {M : List Int}
set_option maxHeartbeats 4000000 in
theorem do6 (hW : W.length ≤ 1000) (hM : M.length ≤ 1000) : DoOK (s, (e, (h, (p, (u, (l, (n, (W, M)))))))) (6, (a1, (a2, (a3, a4)))) := by
 obtain ⟨y, c1, _, c3⟩ := FCheck_any (s, (e, (h, (p, (u, (l, (n, (W, M)))))))) (show M.length ≤ 1000000 by omega) (show W.length ≤ 1000000 by omega)
 unfold DoOK g_floor_Do
 dsimp only
 rw [cloneW (by omega), Option.bind_some, cloneM (by omega), Option.bind_some, dF (by decide), dF (by decide), dF (by decide), dF (by decide), dF (by decide), dT rfl, c1, Option.bind_some]
 rw [eT rfl]
 by_cases hy : ¬ y = 0
 ·rw [eF hy, Option.bind_some]
  exact ⟨_, _, 1, rfl, fun h => absurd h (by decide)⟩
 have hy := Decidable.of_not_not hy
 rw [eT hy]
 by_cases ha : ¬ a4 ≥ n
 ·rw [dF ha, Option.bind_some]
  exact ⟨_, _, 1, rfl, fun h => absurd h (by decide)⟩
 have ha := Decidable.of_not_not ha
 rw [dT ha, Option.bind_some]
 dsimp only
 by_cases hb : ¬ a4 ≤ 1099511627776
 ·rw [decide_eq_false hb]
  exact ⟨_, _, 1, rfl, fun h => absurd h (by decide)⟩
 have hb := Decidable.of_not_not hb
 rw [decide_eq_true hb, Bool.not_true, cond_false]
 obtain ⟨o1, o2, o3, o4, o5, o6, o7, o8⟩ := c3 hy
 have o1 : s = 0 ∨ s = 1 ∨ s = 2 := o1
 have o2 : 0 ≤ e := o2
 have o3 : e ≤ 1099511627776 := o3
 have o4 : M.length ≤ 8 := o4
 have o5 : W.length ≤ 4 := o5
 have o6 : ∀ w ∈ W, 0 < w.1 := o6
 have o7 : s = 0 → h = 0 := o7
 have o8 : s ≠ 0 → 0 < h := o8
 have we : IntKind.i64.wrap (e + 1) = e + 1 := wrap_i64 (by omega) (by omega)
 generalize IntKind.i64.wrap (l + 3) = L
 by_cases hs1 : s = 1
 ·subst hs1
  have hh := o8 (by decide)
  have R : fineT (e, (h, false)) (8, (h, (e, 0))) = (true, (e, (h, true))) := fR hh
  rw [eT rfl]
  by_cases ho : a4 ≥ L
  ·rw [dT ho, Option.bind_some, decide_eq_true ho]
   cases W with
   | nil => exact ⟨(0, (e, (0, (0, (0, (0, (a4, ([], M)))))))), [(8, (h, (e, 0))), (10, (0, (e, 0)))], 0, rfl, fun _ => ⟨stepC (m := (2, (e, (h, (p, (u, (l, (a4, ([], M))))))))) R rfl (step1 (show fineT (e, (h, true)) (10, (0, (e, 0))) = (true, (e, (0, false))) from fI hh) rfl) (by simp), by simp, show M.length ≤ 10 by omega⟩⟩
   | cons w W =>
    have hw := o6 w List.mem_cons_self
    have o5 : W.length + 1 ≤ 4 := o5
    dsimp only
    rw [cond_true, show room 32 (([] : List Dc) ++ [((8 : Int), (h, (e, (0 : Int))))]).length = true from rfl, cond_true, Option.bind_some]
    dsimp only
    rw [eT rfl, Option.bind_some]
    dsimp only
    simp only [List.length_cons]
    rw [cond_true, dT (by omega), wT (by omega) (by omega), gT (by omega) (by omega) (by omega), we]
    exact ⟨(1, (e + 1, (w.1, (w.2, (IntKind.i64.wrap (a4 + 60), (IntKind.i64.wrap (a4 + 12), (a4, (((w :: W).drop 1).take (((W.length + 1 : Nat) : Int).toNat - 1), M)))))))), [(8, (h, (e, 0))), (5, (w.1, (e + 1, 0)))], 0, rfl,
     fun _ => ⟨stepC (m := (2, (e, (h, (p, (u, (l, (a4, (w :: W, M))))))))) R rfl (step1g (show fineT (e, (h, true)) (5, (w.1, (e + 1, 0))) = (true, (e + 1, (w.1, false))) from fG hw o2 o3) rfl rfl) (by simp), by simp; omega, show M.length ≤ 10 by omega⟩⟩
  ·rw [dF ho, Option.bind_some, decide_eq_false ho]
   by_cases hu : a4 ≥ u
   ·rw [decide_eq_true hu]
    exact ⟨(2, (e, (h, (p, (u, (l, (a4, (W, M)))))))), [(8, (h, (e, 0)))], 0, rfl, fun _ => ⟨step1 (show fineT (e, (h, false)) (8, (h, (e, 0))) = (true, (e, (h, true))) from R) rfl, show W.length ≤ 10 by omega, show M.length ≤ 10 by omega⟩⟩
   ·rw [decide_eq_false hu]
    exact ⟨(1, (e, (h, (p, (u, (l, (a4, (W, M)))))))), [], 0, rfl, fun _ => ⟨step0 rfl, show W.length ≤ 10 by omega, show M.length ≤ 10 by omega⟩⟩
 ·rw [eF hs1, Option.bind_some]
  dsimp only
  rw [cond_false, Option.bind_some]
  dsimp only
  by_cases hs2 : s = 2
  ·subst hs2
   have hh := o8 (by decide)
   rw [eT rfl, Option.bind_some]
   dsimp only
   by_cases ho : a4 ≥ L
   ·rw [decide_eq_true ho]
    cases W with
    | nil => exact ⟨(0, (e, (0, (0, (0, (0, (a4, ([], M)))))))), [(10, (0, (e, 0)))], 0, rfl, fun _ => ⟨step1 (show fineT (e, (h, true)) (10, (0, (e, 0))) = (true, (e, (0, false))) from fI hh) rfl, by simp, show M.length ≤ 10 by omega⟩⟩
    | cons w W =>
     have hw := o6 w List.mem_cons_self
     have o5 : W.length + 1 ≤ 4 := o5
     simp only [List.length_cons]
     rw [cond_true, dT (by omega), wT (by omega) (by omega), gT (by omega) (by omega) (by omega), we]
     exact ⟨(1, (e + 1, (w.1, (w.2, (IntKind.i64.wrap (a4 + 60), (IntKind.i64.wrap (a4 + 12), (a4, (((w :: W).drop 1).take (((W.length + 1 : Nat) : Int).toNat - 1), M)))))))), [(5, (w.1, (e + 1, 0)))], 0, rfl,
      fun _ => ⟨step1g (show fineT (e, (h, true)) (5, (w.1, (e + 1, 0))) = (true, (e + 1, (w.1, false))) from fG hw o2 o3) rfl rfl, by simp; omega, show M.length ≤ 10 by omega⟩⟩
   ·rw [decide_eq_false ho]
    exact ⟨(2, (e, (h, (p, (u, (l, (a4, (W, M)))))))), [], 0, rfl, fun _ => ⟨step0 rfl, show W.length ≤ 10 by omega, show M.length ≤ 10 by omega⟩⟩
  ·rw [eF hs2, Option.bind_some]
   exact ⟨(s, (e, (h, (p, (u, (l, (a4, (W, M)))))))), [], 0, rfl, fun _ => ⟨step0 rfl, show W.length ≤ 10 by omega, show M.length ≤ 10 by omega⟩⟩
set_option maxHeartbeats 4000000 in
theorem Do_any {a0 : Int} (hW : W.length ≤ 1000) (hM : M.length ≤ 1000) : DoOK (s, (e, (h, (p, (u, (l, (n, (W, M)))))))) (a0, (a1, (a2, (a3, a4)))) := by
 by_cases e1 : a0 = 1
 ·subst e1; exact do1 hW hM
 by_cases e2 : a0 = 2
 ·subst e2; exact do2 hW hM
 by_cases e3 : a0 = 3
 ·subst e3; exact do3 hW hM
 by_cases e4 : a0 = 4
 ·subst e4; exact do4 hW hM
 by_cases e5 : a0 = 5
 ·subst e5; exact do5 hW hM
 by_cases e6 : a0 = 6
 ·subst e6; exact do6 hW hM
 unfold DoOK g_floor_Do
 dsimp only
 rw [cloneW (by omega), Option.bind_some, cloneM (by omega), Option.bind_some, dF e1, dF e2, dF e3, dF e4, dF e5, dF e6, eF e6, eF e3, Option.bind_some]
 exact ⟨_, _, 1, rfl, fun h => absurd h (by decide)⟩
end Go.Sq
namespace Go.Sq
open Go.Rx
theorem after_app : ∀ (l m : List Dc) (j : Jd), afterJ j (l ++ m) = afterJ (afterJ j l) m
 | [], _, _ => rfl
 | d :: l, m, j => after_app l m (fineT j d).2
structure RunF (all : List Dc) (hs : List Int) (f : FlT) (i : Nat) : Prop where
 good : goodN j0 all = all.length
 after : afterJ j0 all = jf f
 hds : heads j0 all = hs
 ep : (hs.length : Int) = f.2.1
 len : all.length ≤ 3 * i
 lenh : hs.length ≤ all.length
 W : f.2.2.2.2.2.2.2.1.length ≤ 10
 M : f.2.2.2.2.2.2.2.2.length ≤ 10
theorem RunF.step {all ds : List Dc} {hs : List Int} {f g : FlT} {i : Nat} (r : RunF all hs f i) (s : StepFl f g ds) (hW : g.2.2.2.2.2.2.2.1.length ≤ 10) (hM : g.2.2.2.2.2.2.2.2.length ≤ 10) :
  RunF (all ++ ds) (hs ++ if f.2.1 < g.2.1 then [g.2.2.1] else []) g (i + 1) := by
 obtain ⟨h1, h2⟩ := good_app all ds j0 r.good
 have e := r.after
 rw [e] at h1 h2
 rw [s.good] at h1
 have hh : heads j0 (all ++ ds) = hs ++ if f.2.1 < g.2.1 then [g.2.2.1] else [] := by rw [h2, r.hds, s.hds]
 have hep := s.ep
 rw [s.hds] at hep
 refine ⟨by rw [h1, List.length_append], by rw [after_app, e, s.after], hh, ?_, ?_, ?_, hW, hM⟩
 ·rw [List.length_append]
  have := r.ep
  omega
 ·rw [List.length_append]; have := r.len; have := s.len; omega
 ·rw [← hh]; exact heads_le _ _
theorem tf_round {all : List Dc} {hs : List Int} {l : List (Int × Int × Int × Int × Int)} {f : FlT} {i : Nat} {a : Int × Int × Int × Int × Int} (hi : l[i]? = some a) (hl : l.length ≤ 100) (r : RunF all hs f i) :
  ∃ all' hs' f', g_law23_TraceFloor_r1 (true, all, hs, l, (l.length : Int), (i : Int), f, ()) = some (.inl (true, all', hs', l, (l.length : Int), ((i + 1 : Nat) : Int), f', ())) ∧ RunF all' hs' f' (i + 1) := by
 have hi2 := lt_of_get hi
 have ws : IntKind.i64.wrap ((i : Int) + 1) = ((i + 1 : Nat) : Int) := by rw [wrap_i64 (by omega) (by omega)]; rfl
 obtain ⟨s, e, h, p, u, n, m, W, M⟩ := f
 obtain ⟨a0, a1, a2, a3, a4⟩ := a
 have rW : W.length ≤ 10 := r.W
 have rM : M.length ≤ 10 := r.M
 obtain ⟨g, ds, q, h1, h2⟩ := Do_any (s := s) (e := e) (h := h) (p := p) (u := u) (l := n) (n := m) (W := W) (M := M) (a0 := a0) (a1 := a1) (a2 := a2) (a3 := a3) (a4 := a4) (by omega) (by omega)
 have hlen := r.len
 have hlenh := r.lenh
 unfold g_law23_TraceFloor_r1
 dsimp only
 rw [dT (by omega), wT (by omega) (by omega), Int.toNat_natCast, gD hi, h1, Option.bind_some]
 dsimp only
 by_cases hq : q = 0
 ·obtain ⟨s1, s2, s3⟩ := h2 hq
  have r' := r.step s1 s2 s3
  have hl3 := s1.len
  rw [nF hq, room_iff.2 (by rw [List.length_append]; omega), cond_true]
  by_cases he : e < g.2.1
  ·rw [dT (show g.2.1 > e from he), room_iff.2 (by rw [List.length_append, List.length_singleton]; omega), cond_true, Option.bind_some, Option.bind_some]
   dsimp only
   rw [ws]
   rw [if_pos (show (s, e, h, p, u, n, m, W, M).2.1 < g.2.1 from he)] at r'
   exact ⟨_, _, _, rfl, r'⟩
  ·rw [dF (show ¬ g.2.1 > e from he), Option.bind_some, Option.bind_some]
   dsimp only
   rw [ws]
   rw [if_neg (show ¬ (s, e, h, p, u, n, m, W, M).2.1 < g.2.1 from he), List.append_nil] at r'
   exact ⟨_, _, _, rfl, r'⟩
 ·rw [nT hq, Option.bind_some]
  dsimp only
  rw [ws]
  exact ⟨_, _, _, rfl, ⟨r.good, r.after, r.hds, r.ep, by omega, r.lenh, r.W, r.M⟩⟩
theorem TraceFloor_true {l : List (Int × Int × Int × Int × Int)} : g_law23_TraceFloor l = some true := by
 unfold g_law23_TraceFloor
 rw [live23, Option.bind_some, Bool.not_true, cond_false]
 by_cases hl : (l.length : Int) > 100
 ·rw [dT hl]
 rw [dF hl, show g_floor_New = some (0, (0, (0, (0, (0, (0, (0, ([], [])))))))) from rfl, Option.bind_some]
 have hl2 : l.length ≤ 100 := by omega
 have loop : ∃ r, iter g_law23_TraceFloor_r1 (true, [], [], l, (l.length : Int), 0, (0, (0, (0, (0, (0, (0, (0, ([], [])))))))), ()) = some r ∧ ∃ all hs f, r = (true, all, hs, f, ()) ∧ RunF all hs f l.length := by
  refine iter_ex (f := g_law23_TraceFloor_r1) (fun y => (y.2.2.2.2.1 - y.2.2.2.2.2.1).toNat) (fun y => ∃ (i : Nat) (all : List Dc) (hs : List Int) (f : FlT), y = (true, all, hs, l, (l.length : Int), (i : Int), f, ()) ∧ i ≤ l.length ∧ RunF all hs f i)
   (fun r => ∃ all hs f, r = (true, all, hs, f, ()) ∧ RunF all hs f l.length) ?_ _ ⟨0, [], [], _, rfl, Nat.zero_le _, rfl, rfl, rfl, rfl, Nat.le_refl _, Nat.le_refl _, Nat.zero_le _, Nat.zero_le _⟩
  rintro y ⟨i, all, hs, f, rfl, hi, r⟩
  by_cases h : i < l.length
  ·left
   obtain ⟨all', hs', f', h1, h2⟩ := tf_round (List.getElem?_eq_getElem h) hl2 r
   exact ⟨_, h1, ⟨i + 1, all', hs', f', rfl, h, h2⟩, by simp only; omega⟩
  ·right
   have e : i = l.length := by omega
   subst e
   refine ⟨_, ?_, all, hs, f, rfl, r⟩
   unfold g_law23_TraceFloor_r1
   dsimp only
   rw [dF (by omega)]
 obtain ⟨r, h1, all, hs, f, rfl, rf⟩ := loop
 rw [h1, Option.bind_some]
 dsimp only
 have hlen := rf.len
 have hlenh := rf.lenh
 have hg := rf.good
 rw [Judge_eq (by omega), Option.bind_some, cond_true]
 dsimp only
 rw [hg, beq_self_eq_true, cond_true, eT rfl, Holders_eq (by omega), Option.bind_some, rf.hds, Equal_eq (by unfold small; omega) (by unfold small; omega), Option.bind_some, decide_eq_true rfl, cond_true]
 rw [rf.ep, beq_self_eq_true]
abbrev AskTy : Ty := .pair (.int .i64) (.pair (.int .i64) (.pair (.int .i64) (.pair (.int .i64) (.int .i64))))
theorem pure_TFloor (x : denL [(false, .sl AskTy)]) (_ : wfL _ x) : g_law23_TraceFloor x = some true := TraceFloor_true
end Go.Sq
