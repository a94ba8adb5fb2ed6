/- Parts of a proof: evaluation of Go code over typed values, and what it computes. -/
import Derived.Test.YtojdkfikpacakaaGreatL6
import Derived.Test.YtojdkfikpacakaaGreatL5
import Derived.Test.YtojdkfikpacakaaGreatF
import Derived.Test.YtojdkfikpacakaaGreatX4
set_option linter.unusedSimpArgs false
set_option linter.unusedVariables false
set_option linter.unusedSectionVars false
namespace Go.Sq
open Go.Rx
abbrev Pk := Int × List Int
abbrev Jt := Bool × Int × Int × Int × List Pk
def goodK (p : Pk) : Bool := decide (p.1 ≥ 0) && (decide (p.1 ≤ 1099511627776) && (decide ((p.2.length : Int) > 0) && decide ((p.2.length : Int) ≤ 40)))
theorem goodK_eq (p : Pk) : g_jitter_good p = some (goodK p) := by
 unfold g_jitter_good goodK
 cases decide (p.1 ≥ 0) <;> cases decide (p.1 ≤ 1099511627776) <;> cases decide ((p.2.length : Int) > 0) <;> rfl
def stepQ (fr last : Int) (p : Pk) : Bool := goodK p && (!decide (p.1 ≤ last) && !decide (IntKind.i64.wrap (p.1 - fr) ≥ 64))
def okQ (fr : Int) : Int → List Pk → Bool
 | _, [] => true
 | last, p :: l => stepQ fr last p && okQ fr p.1 l
theorem okQ_cons (fr last : Int) (p : Pk) (l : List Pk) : okQ fr last (p :: l) = (stepQ fr last p && okQ fr p.1 l) := rfl
theorem jcheck_iter {l : List Pk} {fr : Int} (hl : l.length ≤ 1000000) : ∀ (l2 l1 : List Pk) (last : Int), l = l1 ++ l2 →
  iter g_jitter_Check_r1 (last, fr, l, (l.length : Int), (l1.length : Int), ()) = some (bif okQ fr last l2 then .inl () else .inr (1, ()))
 | [], l1, last, e => by
  refine iter_inr ?_
  rw [List.append_nil] at e
  unfold g_jitter_Check_r1
  dsimp only
  rw [dF (by rw [e]; omega)]; rfl
 | p :: l2, l1, last, e => by
  have hg : l[l1.length]? = some p := by rw [e]; simp
  have hi := lt_of_get hg
  have ws : IntKind.i64.wrap ((l1.length : Int) + 1) = ((l1.length + 1 : Nat) : Int) := by rw [wrap_i64 (by omega) (by omega)]; rfl
  have hr : g_jitter_Check_r1 (last, fr, l, (l.length : Int), (l1.length : Int), ()) = some (bif stepQ fr last p then .inl (p.1, fr, l, (l.length : Int), ((l1.length + 1 : Nat) : Int), ()) else .inr (.inr (1, ()))) := by
   unfold g_jitter_Check_r1
   dsimp only
   rw [dT (by omega), wT (by omega) (by omega), Int.toNat_natCast, gD hg, goodK_eq, Option.bind_some, ← ws]
   unfold stepQ
   cases goodK p <;> cases decide (p.1 ≤ last) <;> cases decide (IntKind.i64.wrap (p.1 - fr) ≥ 64) <;> rfl
  rw [okQ_cons]
  cases hs : stepQ fr last p with
  | true =>
   rw [hs, cond_true] at hr
   rw [iter_inl hr, Bool.true_and]
   have := jcheck_iter (fr := fr) hl l2 (l1 ++ [p]) p.1 (by rw [e]; simp)
   rwa [List.length_append, List.length_singleton] at this
  | false =>
   rw [hs, cond_false] at hr
   exact iter_inr hr
def okJ (j : Jt) : Bool :=
 (decide (j.2.2.1 ≥ 1) && (decide (j.2.2.1 ≤ 16) && (decide (j.2.1 ≥ 0) && (decide (j.2.1 ≤ 2199023255552) && (decide (j.2.2.2.1 ≥ 0) && decide (j.2.2.2.1 < 12)))))) &&
 ((bif j.1 then true else !decide (IntKind.i64.wrap (j.2.1 + j.2.2.2.1) > 0)) && okQ (bif j.1 then j.2.1 else (j.2.2.2.2.getD 0 (0, [])).1) (bif j.1 then IntKind.i64.wrap (j.2.1 - 1) else -1) j.2.2.2.2)
theorem jitter_Check_eq {j : Jt} (hl : j.2.2.2.2.length ≤ 1000000) : g_jitter_Check j = some (err (okJ j)) := by
 obtain ⟨on, nx, dp, dry, q⟩ := j
 have hl : q.length ≤ 1000000 := hl
 unfold g_jitter_Check okJ
 dsimp only
 have e1 : ∀ k : Bool × Jt × Unit → Option Int, ((bif (decide (dp ≥ 1)) then bif (decide (dp ≤ 16)) then bif (decide (nx ≥ 0)) then bif (decide (nx ≤ 2199023255552)) then bif (decide (dry ≥ 0)) then some ((decide (dry < 12)), (on, nx, dp, dry, q), ())
   else some (false, (on, nx, dp, dry, q), ()) else some (false, (on, nx, dp, dry, q), ()) else some (false, (on, nx, dp, dry, q), ()) else some (false, (on, nx, dp, dry, q), ()) else some (false, (on, nx, dp, dry, q), ()) : Option (Bool × Jt × Unit))).bind k =
   k ((decide (dp ≥ 1) && (decide (dp ≤ 16) && (decide (nx ≥ 0) && (decide (nx ≤ 2199023255552) && (decide (dry ≥ 0) && decide (dry < 12)))))), (on, nx, dp, dry, q), ()) := by
  intro k
  cases decide (dp ≥ 1) <;> cases decide (dp ≤ 16) <;> cases decide (nx ≥ 0) <;> cases decide (nx ≤ 2199023255552) <;> cases decide (dry ≥ 0) <;> rfl
 rw [e1]
 dsimp only
 generalize (decide (dp ≥ 1) && (decide (dp ≤ 16) && (decide (nx ≥ 0) && (decide (nx ≤ 2199023255552) && (decide (dry ≥ 0) && decide (dry < 12)))))) = b1
 cases b1 with
 | false => rfl
 | true =>
  cases on with
  | true =>
   simp only [Bool.not_true, cond_false, Option.bind_some, Bool.true_and, cond_true]
   cases q with
   | nil => rfl
   | cons p q =>
    have hne : ((p :: q).length : Int) ≠ 0 := by rw [List.length_cons]; omega
    have hpos : ((0 : Int)) < ((p :: q).length : Int) := by rw [List.length_cons]; omega
    rw [eF hne, wT (Int.le_refl _) hpos]
    rw [show iter g_jitter_Check_r1 (IntKind.i64.wrap (nx - 1), nx, p :: q, ((p :: q).length : Int), 0, ()) = _ from jcheck_iter hl (p :: q) [] _ rfl, Option.bind_some]
    cases okQ nx (IntKind.i64.wrap (nx - 1)) (p :: q) <;> rfl
  | false =>
   simp only [Bool.not_true, Bool.not_false, cond_false, Option.bind_some, Bool.true_and, cond_true]
   generalize decide (IntKind.i64.wrap (nx + dry) > 0) = b2
   cases b2 with
   | true => rfl
   | false =>
    simp only [cond_false, Bool.not_false, Bool.true_and]
    cases q with
    | nil => rfl
    | cons p q =>
     have hne : ((p :: q).length : Int) ≠ 0 := by rw [List.length_cons]; omega
     have hpos : ((0 : Int)) < ((p :: q).length : Int) := by rw [List.length_cons]; omega
     rw [eF hne, wT (Int.le_refl _) hpos]
     rw [show iter g_jitter_Check_r1 (-1, ((p :: q).getD 0 (0, [])).1, p :: q, ((p :: q).length : Int), 0, ()) = _ from jcheck_iter hl (p :: q) [] _ rfl, Option.bind_some]
     cases okQ ((p :: q).getD 0 (0, [])).1 (-1) (p :: q) <;> rfl
theorem goodK_len {p : Pk} (h : goodK p = true) : 0 < p.2.length ∧ p.2.length ≤ 40 ∧ 0 ≤ p.1 ∧ p.1 ≤ 1099511627776 := by
 unfold goodK at h
 simp only [Bool.and_eq_true, decide_eq_true_eq] at h
 omega
theorem stepQ_iff {fr last : Int} {p : Pk} (hf : 0 ≤ fr) (hf2 : fr ≤ 4398046511104) : stepQ fr last p = true ↔ goodK p = true ∧ last < p.1 ∧ p.1 < fr + 64 := by
 unfold stepQ
 rw [Bool.and_eq_true, Bool.and_eq_true]
 refine and_congr_right fun h => ?_
 obtain ⟨_, _, h1, h2⟩ := goodK_len h
 rw [wrap_i64 (by omega) (by omega)]
 simp only [Bool.not_eq_true', decide_eq_false_iff_not]
 omega
theorem okQ_good {fr : Int} : ∀ {l : List Pk} {last : Int}, okQ fr last l = true → ∀ p ∈ l, goodK p = true
 | [], _, _, p, hp => nomatch hp
 | q :: l, last, h, p, hp => by
  rw [okQ_cons, Bool.and_eq_true] at h
  rcases List.mem_cons.1 hp with rfl | hp
  ·have := h.1
   unfold stepQ at this
   rw [Bool.and_eq_true] at this
   exact this.1
  ·exact okQ_good h.2 p hp
def Rises (lo hi : Int) : List Pk → Prop
 | [] => True
 | p :: l => goodK p = true ∧ lo < p.1 ∧ p.1 < hi ∧ Rises p.1 hi l
theorem okQ_iff {fr : Int} (hf : 0 ≤ fr) (hf2 : fr ≤ 4398046511104) : ∀ {l : List Pk} {last : Int}, okQ fr last l = true ↔ Rises last (fr + 64) l
 | [], _ => by simp [okQ, Rises]
 | p :: l, last => by
  rw [okQ_cons, Bool.and_eq_true, stepQ_iff hf hf2, okQ_iff hf hf2]
  simp only [Rises, and_assoc]
theorem Rises.weak {lo lo' hi hi' : Int} : ∀ {l : List Pk}, Rises lo hi l → lo' ≤ lo → hi ≤ hi' → Rises lo' hi' l
 | [], _, _, _ => trivial
 | p :: l, h, h1, h2 => ⟨h.1, by have := h.2.1; omega, by have := h.2.2.1; omega, Rises.weak h.2.2.2 (Int.le_refl _) h2⟩
theorem Rises.len {hi : Int} : ∀ {l : List Pk} {lo : Int}, Rises lo hi l → lo ≤ hi → (l.length : Int) ≤ hi - lo
 | [], lo, _, h => by simp; omega
 | p :: l, lo, h, _ => by
  have := Rises.len h.2.2.2 (by have := h.2.2.1; omega)
  have := h.2.1
  simp only [List.length_cons, Int.natCast_add, Int.natCast_one]
  omega
structure GoodJ (j : Jt) : Prop where
 d1 : 1 ≤ j.2.2.1
 d2 : j.2.2.1 ≤ 16
 n1 : 0 ≤ j.2.1
 n2 : j.2.1 ≤ 2199023255552
 r1 : 0 ≤ j.2.2.2.1
 r2 : j.2.2.2.1 < 12
 off : j.1 = false → j.2.1 = 0 ∧ j.2.2.2.1 = 0
 on : j.1 = true → Rises (j.2.1 - 1) (j.2.1 + 64) j.2.2.2.2
 qs : j.1 = false → ∀ p q, j.2.2.2.2 = p :: q → Rises (-1) (p.1 + 64) j.2.2.2.2
theorem okJ_iff {j : Jt} : okJ j = true ↔ GoodJ j := by
 obtain ⟨on, nx, dp, dry, q⟩ := j
 unfold okJ
 simp only [Bool.and_eq_true, decide_eq_true_eq]
 constructor
 ·rintro ⟨⟨h1, h2, h3, h4, h5, h6⟩, h7, h8⟩
  refine ⟨h1, h2, h3, h4, h5, h6, ?_, ?_, ?_⟩
  ·rintro rfl
   simp only [cond_false, Bool.not_eq_true', decide_eq_false_iff_not] at h7
   rw [wrap_i64 (by omega) (by omega)] at h7
   show nx = 0 ∧ dry = 0
   omega
  ·rintro rfl
   simp only [cond_true] at h8
   rw [okQ_iff h3 (by omega), wrap_i64 (by omega) (by omega)] at h8
   exact h8
  ·rintro rfl p l e
   have e : q = p :: l := e
   subst e
   simp only [cond_false, List.getD_cons_zero] at h8
   have hg := goodK_len (okQ_good h8 p List.mem_cons_self)
   rw [okQ_iff (by omega) (by omega)] at h8
   exact h8
 ·intro h
  obtain ⟨h1, h2, h3, h4, h5, h6, h7, h8, h9⟩ := h
  dsimp only at h1 h2 h3 h4 h5 h6 h7 h8 h9
  refine ⟨⟨h1, h2, h3, h4, h5, h6⟩, ?_, ?_⟩
  ·cases on with
   | true => rfl
   | false =>
    obtain ⟨e1, e2⟩ := h7 rfl
    rw [e1, e2]; rfl
  ·cases on with
   | true =>
    simp only [cond_true]
    rw [okQ_iff h3 (by omega), wrap_i64 (by omega) (by omega)]
    exact h8 rfl
   | false =>
    cases q with
    | nil => rfl
    | cons p l =>
     have := h9 rfl p l rfl
     have hg := goodK_len this.1
     simp only [cond_false, List.getD_cons_zero]
     rw [okQ_iff (by omega) (by omega)]
     exact this
theorem GoodJ.len {j : Jt} (h : GoodJ j) : j.2.2.2.2.length ≤ 2000000000000 := by
 cases hon : j.1 with
 | true =>
  have := Rises.len (h.on hon) (by omega)
  omega
 | false =>
  cases hq : j.2.2.2.2 with
  | nil => exact Nat.zero_le _
  | cons p q =>
   have h9 := h.qs hon p q hq
   rw [hq] at h9
   have := goodK_len h9.1
   have := Rises.len h9 (by omega)
   omega
theorem Rises.good {lo hi : Int} : ∀ {l : List Pk}, Rises lo hi l → ∀ p ∈ l, goodK p = true
 | [], _, p, hp => nomatch hp
 | q :: l, h, p, hp => by
  rcases List.mem_cons.1 hp with rfl | hp
  ·exact h.1
  ·exact Rises.good h.2.2.2 p hp
theorem GoodJ.good {j : Jt} (h : GoodJ j) : ∀ p ∈ j.2.2.2.2, goodK p = true := by
 cases hon : j.1 with
 | true => exact (h.on hon).good
 | false =>
  cases hq : j.2.2.2.2 with
  | nil => exact fun p hp => nomatch hp
  | cons p q => have := h.qs hon p q hq; rw [hq] at this; exact this.good
end Go.Sq
namespace Go.Sq
open Go.Rx
theorem cloneB {b : List Int} (h : b.length ≤ 1000000) : g_slices_Clone_Sbyte_byte b = some b := by
 unfold g_slices_Clone_Sbyte_byte
 rw [List.nil_append, rT (by omega)]
theorem set_sameP {q : List Pk} {i : Nat} {p : Pk} (h : q[i]? = some p) : q.set i p = q := by
 apply List.ext_getElem?
 intro k
 rw [List.getElem?_set]
 split
 ·rename_i e
  subst e
  split
  ·exact h.symm
  ·rename_i hn
   exact (List.getElem?_eq_none (by omega)).symm
 ·rfl
theorem jowned_eq {j : Jt} (hl : j.2.2.2.2.length ≤ 3000000000000) (hb : ∀ p ∈ j.2.2.2.2, p.2.length ≤ 1000000) : g_jitter_owned j = some j := by
 obtain ⟨on, nx, dp, dry, q⟩ := j
 have hl : q.length ≤ 3000000000000 := hl
 unfold g_jitter_owned
 dsimp only
 have e1 : g_slices_Clone_Sapi_Packet_api_Packet q = some q := by
  unfold g_slices_Clone_Sapi_Packet_api_Packet
  rw [List.nil_append, rT (by omega)]
 rw [e1, Option.bind_some]
 rw [show iter g_jitter_owned_r1 ((q.length : Int), 0, (on, nx, dp, dry, q), (false, 0, 0, 0, []), ()) = some ((on, nx, dp, dry, q), (false, 0, 0, 0, []), ()) from
  iter_count (fun i => ((q.length : Int), (i : Int), (on, nx, dp, dry, q), (false, 0, 0, 0, []), ())) q.length (fun i hi => by
   have hg : q[i]? = some q[i] := List.getElem?_eq_getElem hi
   have ws : IntKind.i64.wrap ((i : Int) + 1) = ((i + 1 : Nat) : Int) := by rw [wrap_i64 (by omega) (by omega)]; rfl
   have hc := cloneB (hb q[i] (List.getElem_mem hi))
   unfold g_jitter_owned_r1
   dsimp only
   rw [dT (by omega), wT (by omega) (by omega), Int.toNat_natCast, gD hg, hc, Option.bind_some, wT (by omega) (by omega), ws, set_sameP hg]) (by
   unfold g_jitter_owned_r1
   dsimp only
   rw [dF (by omega)])]
 rfl
theorem GoodJ.owned {j : Jt} (h : GoodJ j) : g_jitter_owned j = some j :=
 jowned_eq (by have := h.len; omega) fun p hp => by have := goodK_len (h.good p hp); omega
theorem putNil {j : Jt} (h : GoodJ j) (hl : j.2.2.2.2.length ≤ 1000000) : g_jitter_Put j [] = some (j, [], 0) := by
 unfold g_jitter_Put
 rw [jitter_Check_eq hl, okJ_iff.2 h, Option.bind_some]
 have i1 : iter g_jitter_Put_r1 ([], 0, 0, ()) = some (.inl ([], ())) := iter_inr (by rfl)
 have i2 : ∀ x y, iter g_jitter_Put_r2 ([], [], 0, 0, x, y, ()) = some ([], x, y, ()) := fun x y => iter_inr (by rfl)
 have e1 : (err true != 0) = false := rfl
 rw [e1, cond_false]
 simp only [List.length_nil, Int.natCast_zero, i1, Option.bind_some]
 have e2 : decide ((-1 : Int) ≥ 0) = false := rfl
 rw [e2, cond_false, h.owned, Option.bind_some, i2, Option.bind_some]
def pullJ (j : Jt) : Jt × Int × List Int × Int :=
 if j.1 = false ∧ (j.2.2.2.2.length : Int) < j.2.2.1 then (j, 0, [], 0) else
 let nx := bif j.1 then j.2.1 else (j.2.2.2.2.getD 0 (0, [])).1
 if 0 < j.2.2.2.2.length ∧ (j.2.2.2.2.getD 0 (0, [])).1 = nx then ((true, nx + 1, j.2.2.1, 0, j.2.2.2.2.drop 1), 1, (j.2.2.2.2.getD 0 (0, [])).2, 0)
 else if j.2.2.2.1 + 1 = 12 then ((false, 0, j.2.2.1, 0, []), 3, [], 0) else ((true, nx + 1, j.2.2.1, j.2.2.2.1 + 1, j.2.2.2.2), 2, [], 0)
theorem Pull_eq {j : Jt} (h : GoodJ j) (hl : j.2.2.2.2.length ≤ 1000000) : g_jitter_Pull j = some (pullJ j) := by
 have ho := h.owned
 unfold g_jitter_Pull
 rw [jitter_Check_eq hl, okJ_iff.2 h, Option.bind_some]
 have e1 : (err true != 0) = false := rfl
 rw [e1, cond_false, ho, Option.bind_some]
 obtain ⟨on, nx, dp, dry, q⟩ := j
 obtain ⟨h1, h2, h3, h4, h5, h6, h7, h8, h9⟩ := h
 dsimp only at h1 h2 h3 h4 h5 h6 h7 h8 h9 hl
 unfold pullJ
 dsimp only
 have wd : IntKind.i64.wrap (dry + 1) = dry + 1 := wrap_i64 (by omega) (by omega)
 have key : ∀ n : Int, 0 ≤ n → n ≤ 2199023255552 →
   (((bif (decide ((q.length : Int) > 0)) then bif (within 0 q.length) then some (((q.getD 0 (0, [])).1 == n), (true, n, dp, dry, q), (false, 0, 0, 0, []), ()) else none
    else some (false, (true, n, dp, dry, q), (false, 0, 0, 0, []), ()) : Option ((Bool × Jt × Jt × Unit))).bind fun j6 =>
   bif j6.1 then
   bif (within 0 j6.2.1.2.2.2.2.length) then
   bif (cutG 1 (j6.2.1.2.2.2.2.length : Int) j6.2.1.2.2.2.2.length) then
   some ((j6.2.1.1, ((IntKind.i64.wrap (j6.2.1.2.1 + 1)), (j6.2.1.2.2.1, (0, ((j6.2.1.2.2.2.2.drop 1).take ((j6.2.1.2.2.2.2.length : Int).toNat - 1)))))), (1, (((j6.2.1.2.2.2.2.getD 0 (0, []))).2, 0)))
   else none
   else none
   else
   bif ((IntKind.i64.wrap (j6.2.1.2.2.2.1 + 1)) == 12) then
   some ((false, (0, (j6.2.1.2.2.1, (0, [])))), (3, ([], 0)))
   else
   some ((j6.2.1.1, ((IntKind.i64.wrap (j6.2.1.2.1 + 1)), (j6.2.1.2.2.1, ((IntKind.i64.wrap (j6.2.1.2.2.2.1 + 1)), j6.2.1.2.2.2.2)))), (2, ([], 0)))) : Option (Jt × Int × List Int × Int)) =
   some (if 0 < q.length ∧ (q.getD 0 (0, [])).1 = n then ((true, n + 1, dp, 0, q.drop 1), 1, (q.getD 0 (0, [])).2, 0)
    else if dry + 1 = 12 then ((false, 0, dp, 0, []), 3, [], 0) else ((true, n + 1, dp, dry + 1, q), 2, [], 0)) := by
  intro n hn hn2
  have wn : IntKind.i64.wrap (n + 1) = n + 1 := wrap_i64 (by omega) (by omega)
  have tail : (bif ((IntKind.i64.wrap (dry + 1)) == 12) then some ((false, (0, (dp, (0, [])))), (3, ([], 0))) else some ((true, ((IntKind.i64.wrap (n + 1)), (dp, ((IntKind.i64.wrap (dry + 1)), q)))), (2, ([], 0))) : Option (Jt × Int × List Int × Int)) =
    some (if dry + 1 = 12 then ((false, 0, dp, 0, []), 3, [], 0) else ((true, n + 1, dp, dry + 1, q), 2, [], 0)) := by
   rw [wd, wn]
   by_cases h12 : dry + 1 = 12
   ·rw [eT h12, if_pos h12]
   ·rw [eF h12, if_neg h12]
  cases q with
  | nil =>
   rw [if_neg (by simp)]
   exact tail
  | cons p q =>
   have hpos : (0 : Int) < ((p :: q).length : Int) := by rw [List.length_cons]; omega
   rw [dT hpos, wT (Int.le_refl _) hpos, Option.bind_some]
   dsimp only
   by_cases hp : ((p :: q).getD 0 (0, [])).1 = n
   ·rw [eT hp, wT (Int.le_refl _) hpos, gT (by omega) (by omega) (Int.le_refl _), if_pos ⟨by omega, hp⟩, wn, Int.toNat_natCast]
    have : ((p :: q).drop 1).take ((p :: q).length - 1) = (p :: q).drop 1 := by simp
    rw [this]
   ·rw [eF hp, if_neg (fun h => hp h.2)]
    exact tail
 cases on with
 | true =>
  rw [if_neg (fun h => by cases h.1)]
  simp only [Bool.not_true, cond_false, cond_true, Option.bind_some]
  exact key nx h3 h4 
 | false =>
  simp only [Bool.not_false, cond_false, cond_true]
  by_cases hq : (q.length : Int) < dp
  ·rw [dT hq, if_pos ⟨trivial, hq⟩]; rfl
  ·rw [dF hq, if_neg (fun h => hq h.2), wT (Int.le_refl _) (by omega), Option.bind_some]
   cases q with
   | nil => simp at hq; omega
   | cons p l =>
    have := goodK_len (h9 rfl p l rfl).1
    refine (key ((p :: l).getD 0 (0, [])).1 (by show 0 ≤ p.1; omega) (by show p.1 ≤ _; omega)).trans ?_
    rw [if_pos ⟨by simp, rfl⟩, if_pos ⟨by simp, trivial⟩] 
theorem pull_good {j : Jt} (h : GoodJ j) (hn : j.2.1 ≤ 1200000000000) : GoodJ (pullJ j).1 ∧ (∀ B, 1099511627777 ≤ B → j.2.1 + 1 ≤ B → (pullJ j).1.2.1 ≤ B) ∧ (pullJ j).2.2.2 = 0 ∧ (pullJ j).1.2.2.2.2.length ≤ j.2.2.2.2.length ∧ (pullJ j).1.2.2.1 = j.2.2.1 := by
  obtain ⟨on, nx, dp, dry, q⟩ := j
  obtain ⟨h1, h2, h3, h4, h5, h6, h7, h8, h9⟩ := h
  dsimp only at h1 h2 h3 h4 h5 h6 h7 h8 h9 hn
  have key : ∀ n : Int, 0 ≤ n → n ≤ 1200000000000 → Rises (n - 1) (n + 64) q → ∀ x, x = (if 0 < q.length ∧ (q.getD 0 (0, [])).1 = n then ((true, n + 1, dp, 0, q.drop 1), 1, (q.getD 0 (0, [])).2, 0)
        else if dry + 1 = 12 then ((false, 0, dp, 0, []), 3, [], 0) else ((true, n + 1, dp, dry + 1, q), 2, [], 0) : Jt × Int × List Int × Int) →
      GoodJ x.1 ∧ x.1.2.1 ≤ n + 1 ∧ x.2.2.2 = 0 ∧ x.1.2.2.2.2.length ≤ q.length ∧ x.1.2.2.1 = dp := by
    intro n hn1 hn2 hR x hx
    cases q with
    | nil =>
      rw [if_neg (by simp)] at hx
      by_cases h12 : dry + 1 = 12
      · rw [if_pos h12] at hx
        subst hx
        exact ⟨⟨h1, h2, Int.le_refl _, (by decide : (0 : Int) ≤ 2199023255552), Int.le_refl _, (by decide : (0 : Int) < 12), fun _ => ⟨rfl, rfl⟩, (fun h => by cases h), (fun _ p q h => by cases h)⟩, by show (0 : Int) ≤ _; omega, rfl, Nat.le_refl _, rfl⟩
      · rw [if_neg h12] at hx
        subst hx
        exact ⟨⟨h1, h2, by show (0 : Int) ≤ n + 1; omega, by show n + 1 ≤ _; omega, by show (0 : Int) ≤ dry + 1; omega, by show dry + 1 < 12; omega, (fun h => by cases h), fun _ => trivial, (fun h => by cases h)⟩, Int.le_refl _, rfl, Nat.le_refl _, rfl⟩
    | cons p l =>
      obtain ⟨r1, r2, r3, r4⟩ := hR
      by_cases hp : p.1 = n
      · rw [if_pos ⟨by simp, hp⟩] at hx
        subst hx
        refine ⟨⟨h1, h2, by show (0 : Int) ≤ n + 1; omega, by show n + 1 ≤ _; omega, Int.le_refl _, by show (0 : Int) < 12; decide, (fun h => by cases h), fun _ => ?_, (fun h => by cases h)⟩, Int.le_refl _, rfl, by simp, rfl⟩
        show Rises (n + 1 - 1) (n + 1 + 64) l
        exact r4.weak (by omega) (by omega)
      · rw [if_neg (fun h => hp h.2)] at hx
        by_cases h12 : dry + 1 = 12
        · rw [if_pos h12] at hx
          subst hx
          exact ⟨⟨h1, h2, Int.le_refl _, (by decide : (0 : Int) ≤ 2199023255552), Int.le_refl _, (by decide : (0 : Int) < 12), fun _ => ⟨rfl, rfl⟩, (fun h => by cases h), (fun _ p q h => by cases h)⟩, by show (0 : Int) ≤ _; omega, rfl, Nat.zero_le _, rfl⟩
        · rw [if_neg h12] at hx
          subst hx
          refine ⟨⟨h1, h2, by show (0 : Int) ≤ n + 1; omega, by show n + 1 ≤ _; omega, by show (0 : Int) ≤ dry + 1; omega, by show dry + 1 < 12; omega, (fun h => by cases h), fun _ => ?_, (fun h => by cases h)⟩, Int.le_refl _, rfl, Nat.le_refl _, rfl⟩
          show Rises (n + 1 - 1) (n + 1 + 64) (p :: l)
          exact ⟨r1, by omega, by omega, r4.weak (Int.le_refl _) (by omega)⟩
  unfold pullJ
  dsimp only
  cases on with
  | true =>
    rw [if_neg (fun h => by cases h.1)]
    obtain ⟨k1, k2, k3, k4, k5⟩ := key nx h3 hn (h8 rfl) _ rfl
    exact ⟨k1, fun B _ hB => Int.le_trans k2 hB, k3, k4, k5⟩
  | false =>
    by_cases hq : (q.length : Int) < dp
    · rw [if_pos ⟨rfl, hq⟩]
      exact ⟨⟨h1, h2, h3, h4, h5, h6, h7, h8, h9⟩, fun B _ hB => (by omega : nx ≤ B), rfl, Nat.le_refl _, rfl⟩
    · rw [if_neg (fun h => hq h.2)]
      cases q with
      | nil => simp at hq; omega
      | cons p l =>
        have hg := h9 rfl p l rfl
        have := goodK_len hg.1
        obtain ⟨k1, k2, k3, k4, k5⟩ := key p.1 (by omega) (by omega) ⟨hg.1, by omega, hg.2.2.1, hg.2.2.2⟩ _ rfl
        exact ⟨k1, fun B hB _ => Int.le_trans k2 (by omega), k3, k4, k5⟩
end Go.Sq
namespace Go.Sq
open Go.Rx
abbrev Er := Int × Int × Jt × SyT × Bool × Int
def inC (n : Int) : Bool := decide (0 ≤ n) && decide (n ≤ 1099511627776)
theorem counted1_eq (n : Int) : g_listen_counted_1 n = some (!inC n) := by
 unfold g_listen_counted_1 inC
 by_cases h : n < 0
 ·rw [dT h, decide_eq_false (by omega)]; rfl
 ·rw [dF h, decide_eq_true (p := 0 ≤ n) (by omega), Bool.true_and]
  by_cases h2 : n ≤ 1099511627776
  ·rw [decide_eq_true h2, decide_eq_false (by omega)]; rfl
  ·rw [decide_eq_false h2, decide_eq_true (by omega)]; rfl
theorem counted_iter {l : List Int} (hl : l.length ≤ 1000) : ∀ (l2 l1 : List Int), l = l1 ++ l2 →
  (l2.all inC = true ∧ iter g_listen_counted_r1 (l, (l.length : Int), (l1.length : Int), ()) = some (.inl (l, ()))) ∨ (l2.all inC = false ∧ ∃ k : Nat, iter g_listen_counted_r1 (l, (l.length : Int), (l1.length : Int), ()) = some (.inr (l, (k : Int), ())))
 | [], l1, e => by
  left
  refine ⟨rfl, iter_inr ?_⟩
  rw [List.append_nil] at e
  unfold g_listen_counted_r1
  dsimp only
  rw [dF (by rw [e]; omega)]
 | n :: l2, l1, e => by
  have hg : l[l1.length]? = some n := by rw [e]; simp
  have hi := lt_of_get hg
  have ws : IntKind.i64.wrap ((l1.length : Int) + 1) = ((l1.length + 1 : Nat) : Int) := by rw [wrap_i64 (by omega) (by omega)]; rfl
  have hr : g_listen_counted_r1 (l, (l.length : Int), (l1.length : Int), ()) = some (bif inC n then .inl (l, (l.length : Int), ((l1.length + 1 : Nat) : Int), ()) else .inr (.inr (l, (l1.length : Int), ()))) := by
   unfold g_listen_counted_r1
   dsimp only
   rw [dT (by omega), wT (by omega) (by omega), Int.toNat_natCast, gD hg, counted1_eq, Option.bind_some, ws]
   cases inC n <;> rfl
  rw [List.all_cons]
  cases hc : inC n with
  | true =>
   rw [hc, cond_true] at hr
   rw [iter_inl hr, Bool.true_and]
   have := counted_iter hl l2 (l1 ++ [n]) (by rw [e]; simp)
   rwa [List.length_append, List.length_singleton] at this
  | false =>
   rw [hc, cond_false] at hr
   exact .inr ⟨rfl, l1.length, iter_inr hr⟩
theorem counted_eq {l : List Int} (hl : l.length ≤ 1000) : g_listen_counted l = some (l.all inC) := by
 unfold g_listen_counted
 rcases counted_iter hl l [] rfl with ⟨h1, h2⟩ | ⟨h1, k, h2⟩
 ·rw [show iter g_listen_counted_r1 (l, (l.length : Int), 0, ()) = _ from h2, h1]; rfl
 ·rw [show iter g_listen_counted_r1 (l, (l.length : Int), 0, ()) = _ from h2, h1]
  simp only [Option.bind_some]
  rw [decide_eq_true (Int.natCast_nonneg k)]; rfl
def zE : Er := (0, 0, (false, 0, 0, 0, []), (List.replicate 16 0, List.replicate 6 0, false, false, 0), false, 0)
structure GoodE (e : Er) : Prop where
 c1 : inC e.1 = true
 c2 : inC e.2.1 = true
 c3 : inC e.2.2.2.2.2 = true
 s : okY e.2.2.2.1
 j : GoodJ e.2.2.1
structure SzE (e : Er) : Prop where
 s : sizedY e.2.2.2.1
 q : e.2.2.1.2.2.2.2.length ≤ 1000000
noncomputable instance (e : Er) : Decidable (GoodE e) := Classical.propDecidable _
theorem listen_Check_eq {e : Er} (hz : SzE e) : g_listen_Check e = some (if GoodE e then 0 else 1) := by
 unfold g_listen_Check
 rw [counted_eq (by simp), Option.bind_some, decoder_Check_eq hz.s]
 simp only [List.all_cons, List.all_nil, Bool.and_true]
 by_cases h : inC e.1 = true ∧ inC e.2.1 = true ∧ inC e.2.2.2.2.2 = true
 ·obtain ⟨h1, h2, h3⟩ := h
  rw [h1, h2, h3, Option.bind_some]
  simp only [Bool.and_true, Bool.not_true, cond_false]
  by_cases h4 : okY e.2.2.2.1
  ·rw [show ckY e.2.2.2.1 = 0 from if_pos h4]
   rw [nF rfl, jitter_Check_eq hz.q, Option.bind_some]
   by_cases h5 : okJ e.2.2.1 = true
   ·rw [h5, if_pos ⟨h1, h2, h3, h4, okJ_iff.1 h5⟩]; rfl
   ·rw [Bool.eq_false_iff.2 h5, if_neg (fun h => h5 (okJ_iff.2 h.j))]; rfl
  ·rw [show ckY e.2.2.2.1 = 1 from if_neg h4, if_neg (fun h => h4 h.s)]; rfl
 ·rw [if_neg (fun g => h ⟨g.c1, g.c2, g.c3⟩)]
  have : (inC e.1 && (inC e.2.1 && inC e.2.2.2.2.2)) = false := by
   rw [Bool.eq_false_iff]
   intro hh
   rw [Bool.and_eq_true, Bool.and_eq_true] at hh
   exact h hh
  rw [this]; rfl
abbrev Dr := SyT × Bool × Int
noncomputable def missD (d : Dr) : Dr × List Int :=
 if d.2.1 = false then ((d.1, d.2.1, d.2.2 + 1), zP) else
 let r := if d.1.2.2.2.1 = true then restY d.1 else fadeY d.1 (if 255 < 16 * (d.2.2 + 1) then 255 else 16 * (d.2.2 + 1))
 (((if r.2.2 = 0 then r.1 else d.1), d.2.1, d.2.2 + 1), r.2.1)
noncomputable def heardD (d : Dr) (b : List Int) : Dr × List Int :=
 if (kindF b).2 ≠ 0 ∨ (d.2.1 = false ∧ (kindF b).1 ≠ 0) ∨ (stepY d.1 b).2.2 ≠ 0 then missD d else (((stepY d.1 b).1, true, 0), (stepY d.1 b).2.1)
theorem missD_fade {d : Dr} (h0 : 0 ≤ d.2.2) (h1 : d.2.2 ≤ 1099511627776) : (if 255 < IntKind.i64.wrap (16 * IntKind.i64.wrap (d.2.2 + 1)) then (255 : Int) else IntKind.i64.wrap (16 * IntKind.i64.wrap (d.2.2 + 1))) = (if 255 < 16 * (d.2.2 + 1) then 255 else 16 * (d.2.2 + 1)) := by
 rw [wrap_i64 (n := d.2.2 + 1) (by omega) (by omega), wrap_i64 (n := 16 * (d.2.2 + 1)) (by omega) (by omega)]
theorem miss_code {X : Type} {x : X} {a b : Int} {j : Jt} {s : SyT} {on : Bool} {mi : Int} (hs : sizedY s) (h0 : 0 ≤ mi) (h1 : mi ≤ 1099511627776) :
  (bif (!on) then some (x, (a, (b, (j, (s, (on, (IntKind.i64.wrap (mi + 1))))))), (List.replicate 16 0), ()) else
   (bif s.2.2.2.1 then (g_decoder_Rest s).bind fun y8 => some (y8.2.2, (a, (b, (j, (s, (on, (IntKind.i64.wrap (mi + 1))))))), y8.2.1, y8.1, ())
    else (g_decoder_Fade s (if 255 < (IntKind.i64.wrap (16 * (IntKind.i64.wrap (mi + 1)))) then 255 else (IntKind.i64.wrap (16 * (IntKind.i64.wrap (mi + 1)))))).bind fun y9 => some (y9.2.2, (a, (b, (j, (s, (on, (IntKind.i64.wrap (mi + 1))))))), y9.2.1, y9.1, ()) : Option ((Int × Er × List Int × SyT × Unit))).bind fun j10 =>
   (bif (j10.1 == 0) then some ((j10.2.1.1, (j10.2.1.2.1, (j10.2.1.2.2.1, (j10.2.2.2.1, j10.2.1.2.2.2.2)))), j10.2.2.1, ()) else some (j10.2.1, j10.2.2.1, ()) : Option ((Er × List Int × Unit))).bind fun j11 => some (x, j11.1, j11.2.1, ()) : Option (X × Er × List Int × Unit)) =
  some (x, (a, b, j, (missD (s, on, mi)).1), (missD (s, on, mi)).2, ()) := by
 unfold missD
 have wm : IntKind.i64.wrap (mi + 1) = mi + 1 := wrap_i64 (by omega) (by omega)
 have wf := missD_fade (d := (s, on, mi)) h0 h1
 dsimp only at wf ⊢
 rw [wf, wm]
 generalize (if 255 < 16 * (mi + 1) then (255 : Int) else 16 * (mi + 1)) = V
 cases on with
 | false => rfl
 | true =>
  rw [if_neg (show ¬ (true = false) by decide)]
  simp only [Bool.not_true, cond_false]
  cases hh : s.2.2.2.1 with
  | true =>
   rw [cond_true, decoder_Rest_eq hs]
   simp only [Option.bind_some, if_true]
   by_cases h : (restY s).2.2 = 0
   ·rw [eT h, if_pos h]; rfl
   ·rw [eF h, if_neg h]; rfl
  | false =>
   rw [cond_false, decoder_Fade_eq hs]
   simp only [Option.bind_some, Bool.false_eq_true, if_false]
   by_cases h : (fadeY s V).2.2 = 0
   ·rw [eT h, if_pos h]; rfl
   ·rw [eF h, if_neg h]; rfl
end Go.Sq
namespace Go.Sq
open Go.Rx
theorem Open_eq {a b d : Int} (h1 : inC a = true) (h2 : inC b = true) (h3 : 1 ≤ d) (h4 : d ≤ 16) : g_listen_Open a b d = some ((a, b, (false, 0, d, 0, []), sY, false, 0), 0) := by
 have e1 : g_jitter_New d = some ((false, 0, d, 0, []), 0) := by
  unfold g_jitter_New
  rw [dF (by omega), decide_eq_false (by omega)]; rfl
 unfold g_listen_Open
 rw [e1, Option.bind_some, nF rfl, counted_eq (by simp), Option.bind_some, Option.bind_some]
 simp only [List.all_cons, List.all_nil, h1, h2, Bool.and_true, Bool.not_true, cond_false]
 rfl
noncomputable def tickE (e : Er) : Er × List Int × Int × Int :=
 if (pullJ e.2.2.1).2.1 = 0 then ((e.1, e.2.1, (pullJ e.2.2.1).1, e.2.2.2), zP, 0, 0)
 else if (pullJ e.2.2.1).2.1 = 3 then ((e.1, e.2.1, (false, 0, e.2.2.1.2.2.1, 0, []), sY, false, 0), zP, 3, 0)
 else ((e.1, e.2.1, (pullJ e.2.2.1).1, (heardD e.2.2.2 (pullJ e.2.2.1).2.2.1).1), (heardD e.2.2.2 (pullJ e.2.2.1).2.2.1).2, (pullJ e.2.2.1).2.1, 0)
theorem pull_zero (j : Jt) : (pullJ j).2.2.2 = 0 := by
 unfold pullJ
 dsimp only
 repeat' split <;> try rfl
theorem inC_iff {n : Int} : inC n = true ↔ 0 ≤ n ∧ n ≤ 1099511627776 := by
 unfold inC
 rw [Bool.and_eq_true, decide_eq_true_eq, decide_eq_true_eq]
theorem Tick_eq {e : Er} (hz : SzE e) (hg : GoodE e) (hb : bytes (pullJ e.2.2.1).2.2.1) (hs : small (pullJ e.2.2.1).2.2.1) : g_listen_Tick e = some (tickE e) := by
 have hm := inC_iff.1 hg.c3
 have hk := frame_Kind_eq hb hs
 have hst := decoder_Step_eq hz.s hb hs
 have ho := Open_eq hg.c1 hg.c2 hg.j.d1 hg.j.d2
 have hp0 := pull_zero e.2.2.1
 unfold g_listen_Tick
 rw [listen_Check_eq hz, if_pos hg, Option.bind_some, nF rfl, Pull_eq hg.j hz.q, Option.bind_some, nF hp0]
 unfold tickE
 obtain ⟨ep, fr, j, s, on, mi⟩ := e
 dsimp only at hm hk hst ho hp0 ⊢
 have mc := fun x : List Int => @miss_code (List Int) x ep fr (pullJ j).1 s on mi hz.s hm.1 hm.2
 generalize pullJ j = p at *
 obtain ⟨j', is, b, f⟩ := p
 dsimp only at hp0 hk hst ho mc ⊢
 subst hp0
 by_cases h0 : is = 0
 ·rw [eT h0, if_pos h0, h0]; rfl
 rw [eF h0, if_neg h0]
 by_cases h3 : is = 3
 ·rw [eT h3, if_pos h3, ho, h3]; rfl
 rw [eF h3, if_neg h3, hk, Option.bind_some]
 have hmiss : (kindF b).2 ≠ 0 ∨ (on = false ∧ (kindF b).1 ≠ 0) ∨ (stepY s b).2.2 ≠ 0 → heardD (s, on, mi) b = missD (s, on, mi) := fun h => if_pos h
 by_cases k2 : (kindF b).2 ≠ 0
 ·rw [nT k2, hmiss (.inl k2)]
  simp only [Option.bind_some, cond_true, cond_false]
  rw [mc]; rfl
 have k2' : (kindF b).2 = 0 := by simpa using k2
 rw [nF k2']
 have rest : ∀ o : Bool, ((g_decoder_Step s b).bind fun y6 =>
   bif (y6.2.2 != 0) then some (b, false, (ep, (fr, (j', (s, (o, mi))))), (List.replicate 16 0), [0, 0, 0, 0, 0, 0, 0, 0, 0, 0, 0, 0, 0, 0, 0, 0], ())
   else some (b, true, (ep, (fr, (j', (y6.1, (true, 0))))), (List.replicate 16 0), y6.2.1, ()) : Option ((List Int × Bool × Er × List Int × List Int × Unit))) =
   some (bif (stepY s b).2.2 != 0 then (b, false, (ep, (fr, (j', (s, (o, mi))))), List.replicate 16 0, [0, 0, 0, 0, 0, 0, 0, 0, 0, 0, 0, 0, 0, 0, 0, 0], ()) else (b, true, (ep, (fr, (j', ((stepY s b).1, (true, 0))))), List.replicate 16 0, (stepY s b).2.1, ())) := by
  intro o
  rw [hst, Option.bind_some]
  cases (stepY s b).2.2 != 0 <;> rfl
 have good : (stepY s b).2.2 = 0 → ¬ (on = false ∧ (kindF b).1 ≠ 0) → heardD (s, on, mi) b = (((stepY s b).1, true, 0), (stepY s b).2.1) := fun h h2 => if_neg (fun h' => h'.elim (fun x => x k2') fun h' => h'.elim h2 fun x => x h)
 cases on with
 | false =>
  simp only [Bool.not_false, cond_true, Option.bind_some]
  by_cases k1 : (kindF b).1 = 0
  ·rw [nF k1, rest, Option.bind_some]
   by_cases h : (stepY s b).2.2 = 0
   ·rw [good h (fun x => x.2 k1), nF h]; rfl
   ·rw [hmiss (.inr (.inr h)), nT h]
    simp only [cond_false]
    have := mc b
    simp only [Bool.not_false, cond_true] at this
    rw [this]; rfl
  ·rw [nT k1, hmiss (.inr (.inl ⟨rfl, k1⟩))]
   simp only [Option.bind_some, cond_false, Bool.not_false, cond_true]
   rw [wrap_i64 (n := mi + 1) (by omega) (by omega)]; rfl
 | true =>
  simp only [Bool.not_true, cond_false, Option.bind_some]
  rw [rest, Option.bind_some]
  by_cases h : (stepY s b).2.2 = 0
  ·rw [good h (fun x => by cases x.1), nF h]; rfl
  ·rw [hmiss (.inr (.inr h)), nT h]
   simp only [cond_false]
   have := mc b
   simp only [Bool.not_true, cond_false] at this
   rw [this]; rfl
end Go.Sq
namespace Go.Sq
open Go.Rx
structure InvE (k : Nat) (e : Er) : Prop where
 g : GoodE e
 z : SzE e
 b : ∀ p ∈ e.2.2.1.2.2.2.2, bytes p.2
 n : e.2.2.1.2.1 ≤ 1099511627777 + k
 m : e.2.2.2.2.2 ≤ 1073741824 + k
theorem pull_b {j : Jt} (h : ∀ p ∈ j.2.2.2.2, bytes p.2) : bytes (pullJ j).2.2.1 ∧ ∀ p ∈ (pullJ j).1.2.2.2.2, bytes p.2 := by
 have hn : bytes [] := fun x hx => nomatch hx
 have hd : bytes ((j.2.2.2.2.getD 0 (0, [])).2) := by
  cases hq : j.2.2.2.2 with
  | nil => exact hn
  | cons p q => exact h p (by rw [hq]; exact List.mem_cons_self)
 unfold pullJ
 dsimp only
 split
 ·exact ⟨hn, h⟩
 ·split
  ·exact ⟨hd, fun p hp => h p (List.mem_of_mem_drop hp)⟩
  ·split
   ·exact ⟨hn, fun p hp => nomatch hp⟩
   ·exact ⟨hn, h⟩
theorem pull_len {j : Jt} (hg : GoodJ j) : (pullJ j).2.2.1.length ≤ 1000 := by
 have hd : (j.2.2.2.2.getD 0 (0, [])).2.length ≤ 1000 := by
  cases hq : j.2.2.2.2 with
  | nil => exact Nat.zero_le _
  | cons p q => have := goodK_len (hg.good p (by rw [hq]; exact List.mem_cons_self)); show p.2.length ≤ 1000; omega
 unfold pullJ
 dsimp only
 split
 ·exact Nat.zero_le _
 ·split
  ·exact hd
  ·split <;> exact Nat.zero_le _
theorem missD_inv {d : Dr} (hs : sizedY d.1) (ok : okY d.1) (h0 : 0 ≤ d.2.2) : sizedY (missD d).1.1 ∧ okY (missD d).1.1 ∧ (missD d).1.2.2 = d.2.2 + 1 ∧ (missD d).1.2.1 = d.2.1 := by
 unfold missD
 split
 ·exact ⟨hs, ok, rfl, rfl⟩
 ·dsimp only
  have hv : (1 : Int) ≤ (if 255 < 16 * (d.2.2 + 1) then 255 else 16 * (d.2.2 + 1)) := by split <;> omega
  generalize (if 255 < 16 * (d.2.2 + 1) then (255 : Int) else 16 * (d.2.2 + 1)) = v at hv
  by_cases hh : d.1.2.2.2.1 = true
  ·rw [if_pos hh]
   have r := restY_ok ok
   rw [if_pos r.2]
   exact ⟨restY_sized hs, r.1, rfl, rfl⟩
  ·rw [if_neg hh]
   have r := fadeY_ok ok hv
   rw [if_pos r.2]
   exact ⟨fadeY_sized v, r.1, rfl, rfl⟩
theorem heardD_inv {d : Dr} {b : List Int} (hs : sizedY d.1) (ok : okY d.1) (h0 : 0 ≤ d.2.2) (hb : bytes b) : sizedY (heardD d b).1.1 ∧ okY (heardD d b).1.1 ∧ 0 ≤ (heardD d b).1.2.2 ∧ (heardD d b).1.2.2 ≤ d.2.2 + 1 := by
 unfold heardD
 split
 ·obtain ⟨m1, m2, m3, _⟩ := missD_inv hs ok h0
  exact ⟨m1, m2, by omega, by omega⟩
 ·rename_i h
  have h2 : (stepY d.1 b).2.2 = 0 := Decidable.byContradiction fun x => h (.inr (.inr x))
  exact ⟨stepY_sized hb, (stepY_ok ok h2).1, Int.le_refl _, by show (0 : Int) ≤ _; omega⟩
theorem tick_inv {k : Nat} {e : Er} (hk : k ≤ 1000000) (h : InvE k e) : g_listen_Tick e = some (tickE e) ∧ InvE (k + 1) (tickE e).1 ∧ (tickE e).2.2.2 = 0 := by
 obtain ⟨hg, hz, hb, hn, hm⟩ := h
 have pb := pull_b hb
 have pl := pull_len hg.j
 have pg := pull_good hg.j (by omega)
 have hmi := inC_iff.1 hg.c3
 refine ⟨Tick_eq hz hg pb.1 (by unfold small; omega), ?_, ?_⟩
 ·unfold tickE
  split
  ·refine ⟨⟨hg.c1, hg.c2, hg.c3, hg.s, pg.1⟩, ⟨hz.s, Nat.le_trans pg.2.2.2.1 hz.q⟩, pb.2, ?_, ?_⟩
   ·exact pg.2.1 _ (by omega) (by omega)
   ·show e.2.2.2.2.2 ≤ _; omega
  ·split
   ·refine ⟨⟨hg.c1, hg.c2, rfl, sY_ok, ⟨hg.j.d1, hg.j.d2, Int.le_refl _, (by decide : (0 : Int) ≤ 2199023255552), Int.le_refl _, (by decide : (0 : Int) < 12), fun _ => ⟨rfl, rfl⟩, (fun h => by cases h), (fun _ p q h => by cases h)⟩⟩, ⟨sY_sized, Nat.zero_le _⟩, (fun p hp => nomatch hp), ?_, ?_⟩
    ·show (0 : Int) ≤ _; omega
    ·show (0 : Int) ≤ _; omega
   ·obtain ⟨d1, d2, d3, d4⟩ := heardD_inv (d := e.2.2.2) hz.s hg.s hmi.1 pb.1
    refine ⟨⟨hg.c1, hg.c2, inC_iff.2 ⟨d3, Int.le_trans d4 (by omega)⟩, d2, pg.1⟩, ⟨d1, Nat.le_trans pg.2.2.2.1 hz.q⟩, pb.2, ?_, ?_⟩
    ·exact pg.2.1 _ (by omega) (by omega)
    ·show (heardD e.2.2.2 (pullJ e.2.2.1).2.2.1).1.2.2 ≤ _
     omega
 ·unfold tickE
  split
  ·rfl
  ·split <;> rfl
noncomputable def runE : Nat → Er → Er × List (List Int)
 | 0, e => (e, [])
 | n + 1, e => ((runE n (tickE e).1).1, (tickE e).2.1 :: (runE n (tickE e).1).2)
theorem runE_len : ∀ (n : Nat) (e : Er), (runE n e).2.length = n
 | 0, _ => rfl
 | n + 1, e => by unfold runE; rw [List.length_cons, runE_len n]
theorem runE_add : ∀ (a b : Nat) (e : Er), runE (a + b) e = ((runE b (runE a e).1).1, (runE a e).2 ++ (runE b (runE a e).1).2)
 | 0, b, e => by rw [Nat.zero_add]; rfl
 | a + 1, b, e => by
  rw [show a + 1 + b = (a + b) + 1 by omega]
  show ((runE (a + b) (tickE e).1).1, (tickE e).2.1 :: (runE (a + b) (tickE e).1).2) = _
  rw [runE_add a b]; rfl
theorem runE_inv : ∀ (n k : Nat) (e : Er), n + k ≤ 1000000 → InvE k e → InvE (k + n) (runE n e).1
 | 0, k, e, _, h => h
 | n + 1, k, e, hk, h => by
  have := runE_inv n (k + 1) (tickE e).1 (by omega) (tick_inv (by omega) h).2.1
  rw [show k + (n + 1) = k + 1 + n by omega]
  exact this
theorem ticks_iter : ∀ (n : Nat) (N i k : Nat) (out : List (List Int)) (e z : Er), N = i + n → out.length = i → N ≤ 1000 → k + n ≤ 1000000 → InvE k e →
  iter g_listen_Ticks_r1 (out, (N : Int), (i : Int), e, z, ()) = some (.inl (out ++ (runE n e).2, (runE n e).1, z, ()))
 | 0, N, i, k, out, e, z, hN, ho, _, _, _ => by
  refine iter_inr ?_
  unfold g_listen_Ticks_r1
  dsimp only
  rw [dF (by omega)]
  show some (Sum.inr (Sum.inl (out, e, z, ()))) = some (Sum.inr (Sum.inl (out ++ [], e, z, ())))
  rw [List.append_nil]
 | n + 1, N, i, k, out, e, z, hN, ho, hN2, hk, h => by
  obtain ⟨t1, t2, t3⟩ := tick_inv (by omega) h
  have ws : IntKind.i64.wrap ((i : Int) + 1) = ((i + 1 : Nat) : Int) := by rw [wrap_i64 (by omega) (by omega)]; rfl
  have hr : g_listen_Ticks_r1 (out, (N : Int), (i : Int), e, z, ()) = some (.inl (out ++ [(tickE e).2.1], (N : Int), ((i + 1 : Nat) : Int), (tickE e).1, z, ())) := by
   unfold g_listen_Ticks_r1
   dsimp only
   rw [dT (by omega), t1, Option.bind_some, nF t3, rT (by rw [List.length_append, List.length_singleton]; omega), ws]
  rw [iter_inl hr, ticks_iter n N (i + 1) (k + 1) _ _ z (by omega) (by rw [List.length_append, List.length_singleton, ho]) hN2 (by omega) t2]
  show _ = some (Sum.inl (out ++ (tickE e).2.1 :: (runE n (tickE e).1).2, (runE n (tickE e).1).1, z, ()))
  rw [List.append_assoc]; rfl
theorem Ticks_eq {k : Nat} {e : Er} {n : Nat} (hn : n ≤ 1000) (hk : k + n ≤ 1000000) (h : InvE k e) : g_listen_Ticks e (n : Int) = some ((runE n e).1, (runE n e).2, 0) := by
 unfold g_listen_Ticks
 rw [listen_Check_eq h.z, if_pos h.g, Option.bind_some, nF rfl, dF (by omega), decide_eq_false (by omega), Option.bind_some]
 dsimp only
 rw [cond_false, putNil h.g.j h.z.q, Option.bind_some]
 dsimp only
 have := ticks_iter n n 0 k [] e zE (by omega) rfl hn hk h
 rw [show iter g_listen_Ticks_r1 ([], (n : Int), 0, (e.1, (e.2.1, (e.2.2.1, e.2.2.2))), (0, (0, ((false, (0, (0, (0, [])))), (((List.replicate 16 0), ((List.replicate 6 0), (false, (false, 0)))), (false, 0))))), ()) = _ from this, Option.bind_some]
 rfl
theorem strEq_same (s : ByteArray) : strEq s s = true := beq_self_eq_true _
theorem jEqual_same {j : Jt} (hl : j.2.2.2.2.length ≤ 1000000) : g_r13_Equal j j = some true := by
 obtain ⟨on, nx, dp, dry, q⟩ := j
 have hl : q.length ≤ 1000000 := hl
 unfold g_r13_Equal
 simp only [beq_self_eq_true, Bool.not_true, bne_self_eq_false, cond_false, Option.bind_some]
 rw [show iter g_r13_Equal_r1 ((q.length : Int), 0, (on, nx, dp, dry, q), (on, nx, dp, dry, q), ()) = some (.inl ()) from
  iter_count (fun i => ((q.length : Int), (i : Int), (on, nx, dp, dry, q), (on, nx, dp, dry, q), ())) q.length (fun i hi => by
   have hg : q[i]? = some q[i] := List.getElem?_eq_getElem hi
   have ws : IntKind.i64.wrap ((i : Int) + 1) = ((i + 1 : Nat) : Int) := by rw [wrap_i64 (by omega) (by omega)]; rfl
   unfold g_r13_Equal_r1
   dsimp only
   rw [dT (by omega), wT (by omega) (by omega), wT (by omega) (by omega), Int.toNat_natCast, gD hg, nF rfl, wT (by omega) (by omega), wT (by omega) (by omega), strEq_same, ← ws]
   rfl) (by
   unfold g_r13_Equal_r1
   dsimp only
   rw [dF (by omega)])]
 rfl
theorem eEqual_same {e : Er} (hl : e.2.2.1.2.2.2.2.length ≤ 1000000) : g_r14_Equal e e = some true := by
 unfold g_r14_Equal
 simp only [beq_self_eq_true, Bool.and_true, cond_true, jEqual_same hl, Option.bind_some]
end Go.Sq
namespace Go.Sq
open Go.Rx
theorem may13_eq (p : Pk) : g_r13_MayPacket p = some (goodK p) := by
 unfold g_r13_MayPacket goodK
 have : decide ((p.2.length : Int) > 0) = decide ((p.2.length : Int) ≥ 1) := decide_eq_decide.2 (by omega)
 rw [this]
 cases decide (p.1 ≥ 0) <;> cases decide (p.1 ≤ 1099511627776) <;> cases decide ((p.2.length : Int) ≥ 1) <;> rfl
theorem r13_iter {j : Jt} (hl : j.2.2.2.2.length ≤ 1000) (hn1 : 0 ≤ j.2.1) (hn2 : j.2.1 ≤ 2199023255552) : ∀ (l2 l1 : List Pk) (lo hi : Int), j.2.2.2.2 = l1 ++ l2 →
  (l1 = [] ∧ lo = (bif j.1 then j.2.1 - 1 else -1) ∨ l1 ≠ [] ∧ ∃ p0, j.2.2.2.2[l1.length - 1]? = some p0 ∧ lo = p0.1) →
  (hi = bif j.1 then j.2.1 + 64 else (j.2.2.2.2.getD 0 (0, [])).1 + 64) → (j.1 = false → j.2.2.2.2 ≠ [] → 0 ≤ (j.2.2.2.2.getD 0 (0, [])).1 ∧ (j.2.2.2.2.getD 0 (0, [])).1 ≤ 1099511627776 ∨ l1 = []) →
  ∃ r, iter g_r13_Check_r1 (j.2.2.2.2, (j.2.2.2.2.length : Int), (l1.length : Int), j, ()) = some r ∧ ((r = .inl () ∧ Rises lo hi l2) ∨ ∃ c, r = .inr (c, ()) ∧ c = 1)
 | [], l1, lo, hi, e, _, _, _ => by
  refine ⟨.inl (), iter_inr ?_, .inl ⟨rfl, trivial⟩⟩
  rw [List.append_nil] at e
  unfold g_r13_Check_r1
  dsimp only
  rw [dF (by rw [e]; omega)]
 | p :: l2, l1, lo, hi, e, hlo, hhi, h0 => by
  have hg : j.2.2.2.2[l1.length]? = some p := by rw [e]; simp
  have hi' := lt_of_get hg
  have ws : IntKind.i64.wrap ((l1.length : Int) + 1) = ((l1.length + 1 : Nat) : Int) := by rw [wrap_i64 (by omega) (by omega)]; rfl
  by_cases hk : goodK p = true
  case neg =>
   refine ⟨.inr (1, ()), iter_inr ?_, .inr ⟨1, rfl, rfl⟩⟩
   unfold g_r13_Check_r1
   dsimp only
   rw [dT (by omega), wT (by omega) (by omega), Int.toNat_natCast, gD hg, may13_eq, Option.bind_some, Bool.eq_false_iff.2 hk]
   rfl
  have gk := goodK_len hk
  have hlow : ∃ b : Bool, (∀ k : (List Pk × Int × Int × Bool × Jt × Pk × Unit) → Option ((List Pk × Int × Int × Jt × Unit) ⊕ (Unit ⊕ (Int × Unit))),
    ((g_r13_MayPacket p).bind fun y3 =>
     bif (!y3) then some (j.2.2.2.2, (j.2.2.2.2.length : Int), (l1.length : Int), true, j, p, ())
     else bif (decide ((l1.length : Int) > 0)) then
      bif (within (IntKind.i64.wrap ((l1.length : Int) - 1)) j.2.2.2.2.length) then
       some (j.2.2.2.2, (j.2.2.2.2.length : Int), (l1.length : Int), (decide ((j.2.2.2.2.getD ((IntKind.i64.wrap ((l1.length : Int) - 1)).toNat) (0, [])).1 ≥ p.1)), j, p, ())
      else none
     else some (j.2.2.2.2, (j.2.2.2.2.length : Int), (l1.length : Int), false, j, p, ()) : Option (List Pk × Int × Int × Bool × Jt × Pk × Unit)).bind k = k (j.2.2.2.2, (j.2.2.2.2.length : Int), (l1.length : Int), b, j, p, ())) ∧
    (b = false → l1 ≠ [] → lo < p.1) := by
   rw [may13_eq, hk]
   rcases hlo with ⟨h1, h2⟩ | ⟨h1, p0, h2, h3⟩
   ·subst h1
    exact ⟨false, fun k => rfl, fun _ h => absurd rfl h⟩
   ·have hpos : 0 < l1.length := List.length_pos_iff.2 h1
    have w : IntKind.i64.wrap ((l1.length : Int) - 1) = ((l1.length - 1 : Nat) : Int) := by rw [wrap_i64 (by omega) (by omega)]; omega
    refine ⟨decide (p0.1 ≥ p.1), fun k => ?_, fun hb _ => ?_⟩
    ·simp only [Option.bind_some, Bool.not_true, cond_false]
     rw [dT (by omega), w, wT (by omega) (by omega), Int.toNat_natCast, gD h2, Option.bind_some]
    ·have := of_decide_eq_false hb
     omega
  obtain ⟨b, hb1, hb2⟩ := hlow
  cases b with
  | true =>
   refine ⟨.inr (1, ()), iter_inr ?_, .inr ⟨1, rfl, rfl⟩⟩
   unfold g_r13_Check_r1
   dsimp only
   rw [dT (by omega), wT (by omega) (by omega), Int.toNat_natCast, gD hg, hb1]
   rfl
  | false =>
   have hq0 : within 0 j.2.2.2.2.length = true := within_iff.2 ⟨Int.le_refl _, by omega⟩
   have w1 : IntKind.i64.wrap (j.2.1 + 64) = j.2.1 + 64 := wrap_i64 (by omega) (by omega)
   have hwin : ∃ c : Bool, (∀ k : (List Pk × Int × Int × Bool × Jt × Unit) → Option ((List Pk × Int × Int × Jt × Unit) ⊕ (Unit ⊕ (Int × Unit))),
     ((bif j.1 then bif (decide (p.1 < j.2.1)) then some (j.2.2.2.2, (j.2.2.2.2.length : Int), (l1.length : Int), true, j, ())
      else bif (decide (p.1 ≥ (IntKind.i64.wrap (j.2.1 + 64)))) then some (j.2.2.2.2, (j.2.2.2.2.length : Int), (l1.length : Int), true, j, ())
      else bif (!j.1) then bif (within 0 j.2.2.2.2.length) then some (j.2.2.2.2, (j.2.2.2.2.length : Int), (l1.length : Int), (decide (p.1 ≥ (IntKind.i64.wrap ((j.2.2.2.2.getD 0 (0, [])).1 + 64)))), j, ()) else none
      else some (j.2.2.2.2, (j.2.2.2.2.length : Int), (l1.length : Int), false, j, ())
      else bif (!j.1) then bif (within 0 j.2.2.2.2.length) then some (j.2.2.2.2, (j.2.2.2.2.length : Int), (l1.length : Int), (decide (p.1 ≥ (IntKind.i64.wrap ((j.2.2.2.2.getD 0 (0, [])).1 + 64)))), j, ()) else none
      else some (j.2.2.2.2, (j.2.2.2.2.length : Int), (l1.length : Int), false, j, ()) : Option (List Pk × Int × Int × Bool × Jt × Unit))).bind k = k (j.2.2.2.2, (j.2.2.2.2.length : Int), (l1.length : Int), c, j, ())) ∧
     (c = false → lo < p.1 ∧ p.1 < hi) := by
    cases hon : j.1 with
    | true =>
     rw [hon] at hhi hlo
     simp only [cond_true] at hhi hlo
     refine ⟨decide (p.1 < j.2.1) || decide (p.1 ≥ j.2.1 + 64), fun k => ?_, fun hc => ?_⟩
     ·rw [w1]
      cases decide (p.1 < j.2.1) <;> cases decide (p.1 ≥ j.2.1 + 64) <;> rfl
     ·rw [Bool.or_eq_false_iff, decide_eq_false_iff_not, decide_eq_false_iff_not] at hc
      refine ⟨?_, by omega⟩
      rcases hlo with ⟨_, h2⟩ | ⟨h1, _⟩
      ·omega
      ·exact hb2 rfl h1
    | false =>
     rw [hon] at hhi hlo
     simp only [cond_false] at hhi hlo
     have hne : j.2.2.2.2 ≠ [] := by rw [e]; simp
     have hgd : 0 ≤ (j.2.2.2.2.getD 0 (0, [])).1 ∧ (j.2.2.2.2.getD 0 (0, [])).1 ≤ 1099511627776 := by
      rcases h0 hon hne with h | h
      ·exact h
      ·subst h
       rw [e]; exact ⟨gk.2.2.1, gk.2.2.2⟩
     have w2 : IntKind.i64.wrap ((j.2.2.2.2.getD 0 (0, [])).1 + 64) = (j.2.2.2.2.getD 0 (0, [])).1 + 64 := wrap_i64 (by omega) (by omega)
     refine ⟨decide (p.1 ≥ (j.2.2.2.2.getD 0 (0, [])).1 + 64), fun k => ?_, fun hc => ?_⟩
     ·rw [w2, hq0]; rfl
     ·have := of_decide_eq_false hc
      refine ⟨?_, by omega⟩
      rcases hlo with ⟨_, h2⟩ | ⟨h1, _⟩
      ·omega
      ·exact hb2 rfl h1
   obtain ⟨c, hc1, hc2⟩ := hwin
   have hr : g_r13_Check_r1 (j.2.2.2.2, (j.2.2.2.2.length : Int), (l1.length : Int), j, ()) = some (bif c then .inr (.inr (1, ())) else .inl (j.2.2.2.2, (j.2.2.2.2.length : Int), ((l1.length + 1 : Nat) : Int), j, ())) := by
    unfold g_r13_Check_r1
    dsimp only
    rw [dT (by omega), wT (by omega) (by omega), Int.toNat_natCast, gD hg, hb1]
    dsimp only
    rw [cond_false, hc1]
    dsimp only
    rw [ws]
    cases c <;> rfl
   cases c with
   | true => exact ⟨.inr (1, ()), iter_inr hr, .inr ⟨1, rfl, rfl⟩⟩
   | false =>
    obtain ⟨g1, g2⟩ := hc2 rfl
    obtain ⟨r, k1, k2⟩ := r13_iter hl hn1 hn2 l2 (l1 ++ [p]) p.1 hi (by rw [e]; simp) (.inr ⟨by simp, p, by rw [List.length_append, List.length_singleton, Nat.add_sub_cancel]; exact hg, rfl⟩) hhi (fun hon hne => .inl (by
     rcases h0 hon hne with h | h
     ·exact h
     ·subst h
      rw [e]; exact ⟨gk.2.2.1, gk.2.2.2⟩))
    rw [List.length_append, List.length_singleton] at k1
    refine ⟨r, (iter_inl hr).trans k1, ?_⟩
    rcases k2 with ⟨k2, k3⟩ | k2
    ·exact .inl ⟨k2, hk, g1, g2, k3⟩
    ·exact .inr k2
theorem r13_Check_ok {j : Jt} (hl : j.2.2.2.2.length ≤ 1000) : ∃ c, g_r13_Check j = some c ∧ (c = 0 → GoodJ j) := by
 unfold g_r13_Check
 by_cases h1 : j.2.2.1 < 1
 ·rw [dT h1]; exact ⟨1, rfl, fun h => by cases h⟩
 rw [dF h1]
 by_cases h2 : j.2.2.1 > 16
 ·rw [dT h2]; exact ⟨1, rfl, fun h => by cases h⟩
 rw [dF h2]
 by_cases h3 : j.2.1 < 0
 ·rw [dT h3]; exact ⟨1, rfl, fun h => by cases h⟩
 rw [dF h3]
 by_cases h4 : j.2.1 > 2199023255552
 ·rw [dT h4]; exact ⟨1, rfl, fun h => by cases h⟩
 rw [dF h4]
 by_cases h5 : j.2.2.2.1 < 0
 ·rw [dT h5]; exact ⟨1, rfl, fun h => by cases h⟩
 rw [dF h5]
 by_cases h6 : j.2.2.2.1 ≥ 12
 ·rw [dT h6]; exact ⟨1, rfl, fun h => by cases h⟩
 rw [dF h6]
 have key : ∀ b : Bool, (b = false → j.1 = false → j.2.1 = 0 ∧ j.2.2.2.1 = 0) → ∃ c, (((some (b, j, ()) : Option (Bool × Jt × Unit))).bind fun j1 =>
   bif j1.1 then some 1 else
   (iter (g_r13_Check_r1) (j1.2.1.2.2.2.2, (j1.2.1.2.2.2.2.length : Int), 0, j1.2.1, ())).bind fun j6 =>
   (match j6 with
   | .inl j7 => (some 0)
   | .inr j8 => (some j8.1)) : Option Int) = some c ∧ (c = 0 → GoodJ j) := by
  intro b hb
  cases b with
  | true => exact ⟨1, rfl, fun h => by cases h⟩
  | false =>
   obtain ⟨r, k1, k2⟩ := r13_iter hl (by omega) (by omega) j.2.2.2.2 [] (bif j.1 then j.2.1 - 1 else -1) (bif j.1 then j.2.1 + 64 else (j.2.2.2.2.getD 0 (0, [])).1 + 64) rfl (.inl ⟨rfl, rfl⟩) rfl (fun _ _ => .inr rfl)
   rw [Option.bind_some]
   dsimp only
   rw [cond_false, show iter g_r13_Check_r1 (j.2.2.2.2, (j.2.2.2.2.length : Int), 0, j, ()) = _ from k1, Option.bind_some]
   rcases k2 with ⟨rfl, hR⟩ | ⟨c, rfl, rfl⟩
   ·refine ⟨0, rfl, fun _ => ⟨by omega, by omega, by omega, by omega, by omega, by omega, hb rfl, fun hon => ?_, fun hon p q e => ?_⟩⟩
    ·rw [hon] at hR; exact hR
    ·rw [hon, e] at hR
     rw [e]; exact hR
   ·exact ⟨1, rfl, fun h => by cases h⟩
 cases hon : j.1 with
 | true => exact key false (fun _ h => by rw [hon] at h; cases h)
 | false =>
  simp only [Bool.not_false, cond_true]
  by_cases h7 : j.2.1 = 0
  ·rw [nF h7]
   exact key (j.2.2.2.1 != 0) (fun h _ => ⟨h7, by simpa using h⟩)
  ·rw [nT h7]
   exact key true (fun h => by cases h)
theorem r14_Check_ok {e : Er} (hz : sizedY e.2.2.2.1) (hl : e.2.2.1.2.2.2.2.length ≤ 1000) : ∃ c, g_r14_Check e = some c ∧ (c = 0 → GoodE e) := by
 unfold g_r14_Check
 by_cases h1 : e.1 < 0
 ·rw [dT h1]; exact ⟨1, rfl, fun h => by cases h⟩
 rw [dF h1]
 by_cases h2 : e.1 > 1099511627776
 ·rw [dT h2]; exact ⟨1, rfl, fun h => by cases h⟩
 rw [dF h2]
 by_cases h3 : e.2.1 < 0
 ·rw [dT h3]; exact ⟨1, rfl, fun h => by cases h⟩
 rw [dF h3]
 by_cases h4 : e.2.1 > 1099511627776
 ·rw [dT h4]; exact ⟨1, rfl, fun h => by cases h⟩
 rw [dF h4]
 by_cases h5 : e.2.2.2.2.2 < 0
 ·rw [dT h5]; exact ⟨1, rfl, fun h => by cases h⟩
 rw [dF h5]
 by_cases h6 : e.2.2.2.2.2 > 1099511627776
 ·rw [dT h6]; exact ⟨1, rfl, fun h => by cases h⟩
 rw [dF h6, r11_Check_eq hz, Option.bind_some]
 by_cases h7 : okY e.2.2.2.1
 ·rw [ckY_pos h7, nF rfl]
  obtain ⟨c, k1, k2⟩ := r13_Check_ok hl
  rw [k1, Option.bind_some, Option.bind_some]
  by_cases hc : c = 0
  ·subst hc
   exact ⟨0, rfl, fun _ => ⟨inC_iff.2 ⟨by omega, by omega⟩, inC_iff.2 ⟨by omega, by omega⟩, inC_iff.2 ⟨by omega, by omega⟩, h7, k2 rfl⟩⟩
  ·refine ⟨1, ?_, fun h => by cases h⟩
   have : (c != 0) = true := by simpa using hc
   rw [this]; rfl
 ·rw [ckY_neg h7]; exact ⟨1, rfl, fun h => by cases h⟩
theorem few14_ok {e : Er} (hl : e.2.2.1.2.2.2.2.length ≤ 9223372036854775807) : ∃ c, g_law14_few e = some c ∧ (c = true → e.2.2.1.2.2.2.2.length ≤ 100) := by
 have key : ∀ (l2 l1 : List Pk), e.2.2.1.2.2.2.2 = l1 ++ l2 → ∃ r, iter g_law14_few_r1 (e.2.2.1.2.2.2.2, (e.2.2.1.2.2.2.2.length : Int), (l1.length : Int), e, ()) = some r ∧ (r = .inl (e, ()) ∨ r = .inr (false, ())) := by
  intro l2
  induction l2 with
  | nil =>
   intro l1 h
   refine ⟨_, iter_inr ?_, .inl rfl⟩
   rw [List.append_nil] at h
   unfold g_law14_few_r1
   dsimp only
   rw [dF (by rw [h]; omega)]
  | cons p l2 ih =>
   intro l1 h
   have hg : e.2.2.1.2.2.2.2[l1.length]? = some p := by rw [h]; simp
   have hi := lt_of_get hg
   have ws : IntKind.i64.wrap ((l1.length : Int) + 1) = ((l1.length + 1 : Nat) : Int) := by rw [wrap_i64 (by omega) (by omega)]; rfl
   by_cases hp : (p.2.length : Int) > 1000
   ·refine ⟨_, iter_inr ?_, .inr rfl⟩
    unfold g_law14_few_r1
    dsimp only
    rw [dT (by omega), wT (by omega) (by omega), Int.toNat_natCast, gD hg, dT hp]
   ·obtain ⟨r, k1, k2⟩ := ih (l1 ++ [p]) (by rw [h]; simp)
    rw [List.length_append, List.length_singleton] at k1
    refine ⟨r, (iter_inl ?_).trans k1, k2⟩
    unfold g_law14_few_r1
    dsimp only
    rw [dT (by omega), wT (by omega) (by omega), Int.toNat_natCast, gD hg, dF hp, ws]
 obtain ⟨r, k1, k2⟩ := key _ [] rfl
 unfold g_law14_few
 rw [show iter g_law14_few_r1 (e.2.2.1.2.2.2.2, (e.2.2.1.2.2.2.2.length : Int), 0, e, ()) = _ from k1, Option.bind_some]
 rcases k2 with rfl | rfl
 ·exact ⟨_, rfl, fun h => by
  have h2 : (e.2.2.1.2.2.2.2.length : Int) ≤ 100 := of_decide_eq_true h
  omega⟩
 ·exact ⟨false, rfl, fun h => by cases h⟩
end Go.Sq
namespace Go.Sq
open Go.Rx
theorem put_first {b : List Int} (h1 : 0 < b.length) (h2 : b.length ≤ 40) : g_jitter_Put (false, 0, 1, 0, []) [(7, b)] = some ((false, 0, 1, 0, [(7, b)]), [0], 0) := by
 have hg : goodK (7, b) = true := by
  unfold goodK
  rw [decide_eq_true (p := ((7, b) : Pk).1 ≥ 0) (by show (0 : Int) ≤ 7; decide), decide_eq_true (p := ((7, b) : Pk).1 ≤ 1099511627776) (by show (7 : Int) ≤ _; decide), decide_eq_true (p := (((7, b) : Pk).2.length : Int) > 0) (by show (0 : Int) < b.length; omega), decide_eq_true (p := (((7, b) : Pk).2.length : Int) ≤ 40) (by show (b.length : Int) ≤ 40; omega)]
  rfl
 have hok : okJ (false, 0, 1, 0, []) = true := rfl
 have i1 : iter g_jitter_Put_r1 ([(7, b)], 1, 0, ()) = some (.inl ([(7, b)], ())) := by
  refine (iter_inl (y := ([(7, b)], 1, 1, ())) ?_).trans (iter_inr rfl)
  unfold g_jitter_Put_r1
  have e0 : g_jitter_Put_1 (7, b) = some false := by unfold g_jitter_Put_1; rw [goodK_eq, hg]; rfl
  show ((g_jitter_Put_1 (7, b)).bind fun y3 => _) = _
  rw [e0]; rfl
 have hf : g_jitter_find (false, 0, 1, 0, []) 7 = some (0, false) := by
  unfold g_jitter_find
  rw [show iter g_jitter_find_r1 ([], 7, (([] : List Pk).length : Int), 0, (([] : List Pk).length : Int), ()) = some ([], 7, 0, 0, ()) from iter_inr rfl]
  rfl
 have hfar : g_jitter_far (false, 0, 1, 0, []) 7 = some false := rfl
 have hc := cloneB (b := b) (by omega)
 have hins : g_slices_Insert_Sapi_Packet_api_Packet [] 0 [(7, b)] = some [(7, b)] := rfl
 have i2 : ∀ z, iter g_jitter_Put_r2 ([], [(7, b)], 1, 0, (false, 0, 1, 0, []), z, ()) = some ([0], (false, 0, 1, 0, [(7, b)]), z, ()) := by
  intro z
  refine (iter_inl (y := ([0], [(7, b)], 1, 1, (false, 0, 1, 0, [(7, b)]), z, ())) ?_).trans (iter_inr rfl)
  unfold g_jitter_Put_r2
  show ((g_jitter_find (false, 0, 1, 0, []) 7).bind fun y11 => _) = _
  rw [hf]
  simp only [Option.bind_some, cond_false]
  show ((g_jitter_far (false, 0, 1, 0, []) 7).bind fun y13 => _).bind _ = _
  rw [hfar]
  simp only [Option.bind_some, cond_false]
  show ((g_slices_Clone_Sbyte_byte b).bind fun y14 => _).bind _ = _
  rw [hc]
  simp only [Option.bind_some]
  show ((g_slices_Insert_Sapi_Packet_api_Packet [] 0 [(7, b)]).bind fun y15 => _).bind _ = _
  rw [hins]
  rfl
 unfold g_jitter_Put
 rw [jitter_Check_eq (by simp), hok, Option.bind_some]
 have e1 : (err true != 0) = false := rfl
 have e2 : decide ((-1 : Int) ≥ 0) = false := rfl
 have hlen : (([(7, b)] : List Pk).length : Int) = 1 := rfl
 rw [e1, cond_false, hlen, i1]
 simp only [Option.bind_some]
 rw [e2, cond_false, jowned_eq (by simp) (by simp), Option.bind_some, hlen, i2]
 rfl
theorem zero_kind : kindF (writeF zFr (List.replicate 6 0)) = (0, 0) := kind_back zFr_sized zFr_ok
theorem zero_step : stepY sY (writeF zFr (List.replicate 6 0)) = soundY (zP, (List.replicate 6 0, (true, (false, 1)))) zP := by
 have e := show stepY sY (writeF zFr (List.replicate 6 0)) = _ from if_pos sY_ok
 have rb : readF (writeF zFr (List.replicate 6 0)) sY.2.1 = (zFr, 0) := read_back zFr_sized zFr_ok
 rw [e, rb, if_neg (by simp), if_neg (by simp [zFr]), if_neg (by simp [zFr])]
 show soundY _ (greatL (List.replicate 16 0) (List.replicate 6 0)) = _
 rw [great_zero]; rfl
theorem zero_len : 0 < (writeF zFr (List.replicate 6 0)).length ∧ (writeF zFr (List.replicate 6 0)).length ≤ 40 := by
 have hk := zero_kind
 unfold kindF at hk
 by_cases h : (writeF zFr (List.replicate 6 0)).length = 0 ∨ (writeF zFr (List.replicate 6 0)).length > 40
 ·rw [if_pos h] at hk
  cases hk
 ·omega
def eA : Er := (3, 1, (false, 0, 1, 0, []), sY, false, 0)
theorem goodJ0 : GoodJ (false, 0, 1, 0, []) := okJ_iff.1 rfl
theorem eA_inv : InvE 0 eA := ⟨⟨rfl, rfl, rfl, sY_ok, goodJ0⟩, ⟨sY_sized, Nat.zero_le _⟩, (fun p hp => nomatch hp), by show (0 : Int) ≤ _; decide, by show (0 : Int) ≤ _; decide⟩
theorem live14_eq : g_law14_live = some true := by
 have o1 : g_listen_Open 3 1 1 = some (eA, 0) := Open_eq rfl rfl (by decide) (by decide)
 obtain ⟨t1, _, _⟩ := tick_inv (by omega) eA_inv
 have t1e : tickE eA = (eA, zP, 0, 0) := rfl
 rw [t1e] at t1
 have w := frame_Write_ok zFr_sized (p := List.replicate 6 0) (by simp) zFr_ok
 have wb := write_bytes zFr_sized zFr_ok
 have zl := zero_len
 have zk := zero_kind
 have zs := zero_step
 have w : g_frame_Write (0, (List.replicate 6 0, List.replicate 16 0)) [0, 0, 0, 0, 0, 0] = some (writeF zFr (List.replicate 6 0), 0) := w
 generalize writeF zFr (List.replicate 6 0) = b at *
 have h1 : g_listen_Hear eA 3 1 (7, b) = some ((3, 1, (false, 0, 1, 0, [(7, b)]), sY, false, 0), true, 0) := by
  unfold g_listen_Hear
  rw [listen_Check_eq eA_inv.z, if_pos eA_inv.g, Option.bind_some, nF rfl]
  show ((some (([] ++ [(7, b)] : List Pk), true, eA, zE, ()) : Option (List Pk × Bool × Er × Er × Unit)).bind fun j3 => _) = _
  rw [Option.bind_some]
  show ((g_jitter_Put (false, 0, 1, 0, []) [(7, b)]).bind fun y4 => _) = _
  rw [put_first zl.1 zl.2]
  rfl
 have hb0 : (0 : Int) ≤ 7 := by decide
 have gk : goodK (7, b) = true := by
  unfold goodK
  rw [decide_eq_true (p := ((7, b) : Pk).1 ≥ 0) hb0, decide_eq_true (p := ((7, b) : Pk).1 ≤ 1099511627776) (by show (7 : Int) ≤ _; decide), decide_eq_true (p := (((7, b) : Pk).2.length : Int) > 0) (by show (0 : Int) < b.length; omega), decide_eq_true (p := (((7, b) : Pk).2.length : Int) ≤ 40) (by show (b.length : Int) ≤ 40; omega)]
  rfl
 have inv2 : InvE 0 (3, 1, (false, 0, 1, 0, [(7, b)]), sY, false, 0) :=
  ⟨⟨rfl, rfl, rfl, sY_ok, ⟨by show (1 : Int) ≤ 1; decide, by show (1 : Int) ≤ 16; decide, Int.le_refl _, by show (0 : Int) ≤ _; decide, Int.le_refl _, by show (0 : Int) < 12; decide, (fun _ => ⟨rfl, rfl⟩), (fun h => by cases h), (fun _ p q h => by
   have h : [((7, b) : Pk)] = p :: q := h
   injection h with h1 h2
   subst h1 h2
   exact ⟨gk, by show (-1 : Int) < 7; decide, by show (7 : Int) < 7 + 64; decide, trivial⟩)⟩⟩, ⟨sY_sized, by show 1 ≤ _; decide⟩,
   (fun p hp => by rcases List.mem_singleton.1 hp with rfl; exact wb.1), by show (0 : Int) ≤ _; decide, by show (0 : Int) ≤ _; decide⟩
 obtain ⟨t2, _, _⟩ := tick_inv (by omega) inv2
 have t2e : tickE (3, 1, (false, 0, 1, 0, [(7, b)]), sY, false, 0) = ((3, 1, (true, 8, 1, 0, []), (heardD (sY, false, 0) b).1), (heardD (sY, false, 0) b).2, 1, 0) := rfl
 have hd : heardD (sY, false, 0) b = (((stepY sY b).1, true, 0), (stepY sY b).2.1) := by
  refine if_neg ?_
  rw [zk, zs]
  rintro (h | ⟨_, h⟩ | h)
  ·exact h rfl
  ·exact h rfl
  ·exact h rfl
 rw [t2e, hd] at t2
 unfold g_law14_live
 rw [o1, Option.bind_some, t1, Option.bind_some, w, Option.bind_some, h1, Option.bind_some, t2, Option.bind_some]
 rfl
theorem pick20 (a : Int) : ∃ n : Nat, n < 20 ∧ (IntKind.i64.wrap ((a.tmod 20) + 20)).tmod 20 = (n : Int) := by
 have h1 := Int.tmod_lt_of_pos a (show (0 : Int) < 20 by decide)
 have h2 := Int.lt_tmod_of_pos a (show (0 : Int) < 20 by decide)
 rw [wrap_i64 (by omega) (by omega)]
 obtain ⟨m, hm⟩ : ∃ m : Nat, a.tmod 20 + 20 = (m : Int) := ⟨(a.tmod 20 + 20).toNat, by omega⟩
 rw [hm]
 exact ⟨m % 20, Nat.mod_lt _ (by decide), rfl⟩
theorem ListenGoes_true {e : Er} {a b : Int} (hs : sizedY e.2.2.2.1) (hl : e.2.2.1.2.2.2.2.length ≤ 9223372036854775807) (hb : ∀ p ∈ e.2.2.1.2.2.2.2, bytes p.2) : g_law14_ListenGoes e a b = some true := by
 unfold g_law14_ListenGoes
 rw [live14_eq, Option.bind_some]
 obtain ⟨c, f1, f2⟩ := few14_ok hl
 rw [f1, Option.bind_some]
 cases c with
 | false => rfl
 | true =>
  have hq := f2 rfl
  obtain ⟨c, k1, k2⟩ := r14_Check_ok hs (by omega)
  rw [Bool.not_true, cond_false, k1, Option.bind_some]
  by_cases hc : c = 0
  ·have hg := k2 hc
   rw [nF hc]
   by_cases hn : e.2.2.1.2.1 > 1099511627776
   ·rw [dT hn]; rfl
   rw [dF hn]
   by_cases hm : e.2.2.2.2.2 > 1073741824
   ·rw [decide_eq_true hm]; rfl
   rw [decide_eq_false hm, Option.bind_some]
   have inv : InvE 0 e := ⟨hg, ⟨hs, by omega⟩, hb, by omega, by omega⟩
   obtain ⟨n, n1, n2⟩ := pick20 a
   obtain ⟨m, m1, m2⟩ := pick20 b
   dsimp only
   rw [cond_false, n2, m2, wrap_i64 (n := (n : Int) + (m : Int)) (by omega) (by omega)]
   have inv2 := runE_inv n 0 e (by omega) inv
   have inv3 := runE_inv m (0 + n) (runE n e).1 (by omega) inv2
   have hadd := runE_add n m e
   have t3 := Ticks_eq (n := n + m) (by omega) (by omega) inv
   rw [hadd, show ((n + m : Nat) : Int) = (n : Int) + (m : Int) from rfl] at t3
   rw [Ticks_eq (by omega) (by omega) inv, Option.bind_some]
   dsimp only
   rw [Ticks_eq (by omega) (by omega) inv2, Option.bind_some, t3, Option.bind_some, cond_true, eT rfl, eT rfl, eT rfl, eT (by rw [runE_len])]
   dsimp only
   rw [eEqual_same inv3.z.q, Option.bind_some, cond_true]
   have hlen : ((runE n e).2 ++ (runE m (runE n e).1).2).length = n + m := by rw [List.length_append, runE_len, runE_len]
   rw [rT (by omega), same_refl (by omega)]
   rfl
  ·rw [nT hc]; rfl
end Go.Sq
namespace Go.Sq
open Go.Rx
end Go.Sq
namespace Go.Sq
open Go.Rx
abbrev JitTy : Ty := .pair .bool (.pair (.int .i64) (.pair (.int .i64) (.pair (.int .i64) (.sl (.pair (.int .i64) (.sl (.int .u8)))))))
abbrev EarTy : Ty := .pair (.int .i64) (.pair (.int .i64) (.pair JitTy (.pair (.pair (.arr 16 (.int .i64)) (.pair (.arr 6 (.int .i64)) (.pair .bool (.pair .bool (.int .u32))))) (.pair .bool (.int .i64)))))
theorem wf_ear {e : den EarTy} (h : wf EarTy e) : sizedY e.2.2.2.1 ∧ e.2.2.1.2.2.2.2.length ≤ 9223372036854775807 ∧ ∀ p ∈ e.2.2.1.2.2.2.2, bytes p.2 := by
 obtain ⟨_, _, ⟨_, _, _, _, h1, h2⟩, ⟨h3, h4, _⟩, _⟩ := h
 exact ⟨⟨h3.1, h4.1⟩, h1, fun p hp => (wf_bytes (h2 p hp).2).2⟩
theorem pure_LGoes (x : denL [(true, EarTy), (false, .int .i64), (false, .int .i64)]) (h : wfL _ x) : g_law14_ListenGoes x.1 x.2.1 x.2.2 = some true :=
 ListenGoes_true (wf_ear h.1).1 (wf_ear h.1).2.1 (wf_ear h.1).2.2
end Go.Sq
