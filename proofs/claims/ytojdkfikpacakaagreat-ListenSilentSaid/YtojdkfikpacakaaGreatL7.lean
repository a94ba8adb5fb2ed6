/- Parts of a proof: evaluation of Go code over typed values, and what it computes. -/
import Derived.Test.YtojdkfikpacakaaGreatL6
import Derived.Test.YtojdkfikpacakaaGreatL5
import Derived.Test.YtojdkfikpacakaaGreatF
import Derived.Test.YtojdkfikpacakaaGreatX4
set_option linter.unusedSimpArgs false
set_option linter.unusedVariables false
set_option linter.unusedSectionVars false
namespace Go.Sq
open Go.Rx
abbrev Pk := Int × List Int
abbrev Jt := Bool × Int × Int × Int × List Pk
def goodK (p : Pk) : Bool := decide (p.1 ≥ 0) && (decide (p.1 ≤ 1099511627776) && (decide ((p.2.length : Int) > 0) && decide ((p.2.length : Int) ≤ 40)))
theorem goodK_eq (p : Pk) : g_jitter_good p = some (goodK p) := by
 unfold g_jitter_good goodK
 cases decide (p.1 ≥ 0) <;> cases decide (p.1 ≤ 1099511627776) <;> cases decide ((p.2.length : Int) > 0) <;> rfl
def stepQ (fr last : Int) (p : Pk) : Bool := goodK p && (!decide (p.1 ≤ last) && !decide (IntKind.i64.wrap (p.1 - fr) ≥ 64))
def okQ (fr : Int) : Int → List Pk → Bool
 | _, [] => true
 | last, p :: l => stepQ fr last p && okQ fr p.1 l
theorem okQ_cons (fr last : Int) (p : Pk) (l : List Pk) : okQ fr last (p :: l) = (stepQ fr last p && okQ fr p.1 l) := rfl
theorem jcheck_iter {l : List Pk} {fr : Int} (hl : l.length ≤ 1000000) : ∀ (l2 l1 : List Pk) (last : Int), l = l1 ++ l2 →
  iter g_jitter_Check_r1 (last, fr, l, (l.length : Int), (l1.length : Int), ()) = some (bif okQ fr last l2 then .inl () else .inr (1, ()))
 | [], l1, last, e => by
  refine iter_inr ?_
  rw [List.append_nil] at e
  unfold g_jitter_Check_r1
  dsimp only
  rw [dF (by rw [e]; omega)]; rfl
 | p :: l2, l1, last, e => by
  have hg : l[l1.length]? = some p := by rw [e]; simp
  have hi := lt_of_get hg
  have ws : IntKind.i64.wrap ((l1.length : Int) + 1) = ((l1.length + 1 : Nat) : Int) := by rw [wrap_i64 (by omega) (by omega)]; rfl
  have hr : g_jitter_Check_r1 (last, fr, l, (l.length : Int), (l1.length : Int), ()) = some (bif stepQ fr last p then .inl (p.1, fr, l, (l.length : Int), ((l1.length + 1 : Nat) : Int), ()) else .inr (.inr (1, ()))) := by
   unfold g_jitter_Check_r1
   dsimp only
   rw [dT (by omega), wT (by omega) (by omega), Int.toNat_natCast, gD hg, goodK_eq, Option.bind_some, ← ws]
   unfold stepQ
   cases goodK p <;> cases decide (p.1 ≤ last) <;> cases decide (IntKind.i64.wrap (p.1 - fr) ≥ 64) <;> rfl
  rw [okQ_cons]
  cases hs : stepQ fr last p with
  | true =>
   rw [hs, cond_true] at hr
   rw [iter_inl hr, Bool.true_and]
   have := jcheck_iter (fr := fr) hl l2 (l1 ++ [p]) p.1 (by rw [e]; simp)
   rwa [List.length_append, List.length_singleton] at this
  | false =>
   rw [hs, cond_false] at hr
   exact iter_inr hr
def okJ (j : Jt) : Bool :=
 (decide (j.2.2.1 ≥ 1) && (decide (j.2.2.1 ≤ 16) && (decide (j.2.1 ≥ 0) && (decide (j.2.1 ≤ 2199023255552) && (decide (j.2.2.2.1 ≥ 0) && decide (j.2.2.2.1 < 12)))))) &&
 ((bif j.1 then true else !decide (IntKind.i64.wrap (j.2.1 + j.2.2.2.1) > 0)) && okQ (bif j.1 then j.2.1 else (j.2.2.2.2.getD 0 (0, [])).1) (bif j.1 then IntKind.i64.wrap (j.2.1 - 1) else -1) j.2.2.2.2)
theorem jitter_Check_eq {j : Jt} (hl : j.2.2.2.2.length ≤ 1000000) : g_jitter_Check j = some (err (okJ j)) := by
 obtain ⟨on, nx, dp, dry, q⟩ := j
 have hl : q.length ≤ 1000000 := hl
 unfold g_jitter_Check okJ
 dsimp only
 have e1 : ∀ k : Bool × Jt × Unit → Option Int, ((bif (decide (dp ≥ 1)) then bif (decide (dp ≤ 16)) then bif (decide (nx ≥ 0)) then bif (decide (nx ≤ 2199023255552)) then bif (decide (dry ≥ 0)) then some ((decide (dry < 12)), (on, nx, dp, dry, q), ())
   else some (false, (on, nx, dp, dry, q), ()) else some (false, (on, nx, dp, dry, q), ()) else some (false, (on, nx, dp, dry, q), ()) else some (false, (on, nx, dp, dry, q), ()) else some (false, (on, nx, dp, dry, q), ()) : Option (Bool × Jt × Unit))).bind k =
   k ((decide (dp ≥ 1) && (decide (dp ≤ 16) && (decide (nx ≥ 0) && (decide (nx ≤ 2199023255552) && (decide (dry ≥ 0) && decide (dry < 12)))))), (on, nx, dp, dry, q), ()) := by
  intro k
  cases decide (dp ≥ 1) <;> cases decide (dp ≤ 16) <;> cases decide (nx ≥ 0) <;> cases decide (nx ≤ 2199023255552) <;> cases decide (dry ≥ 0) <;> rfl
 rw [e1]
 dsimp only
 generalize (decide (dp ≥ 1) && (decide (dp ≤ 16) && (decide (nx ≥ 0) && (decide (nx ≤ 2199023255552) && (decide (dry ≥ 0) && decide (dry < 12)))))) = b1
 cases b1 with
 | false => rfl
 | true =>
  cases on with
  | true =>
   simp only [Bool.not_true, cond_false, Option.bind_some, Bool.true_and, cond_true]
   cases q with
   | nil => rfl
   | cons p q =>
    have hne : ((p :: q).length : Int) ≠ 0 := by rw [List.length_cons]; omega
    have hpos : ((0 : Int)) < ((p :: q).length : Int) := by rw [List.length_cons]; omega
    rw [eF hne, wT (Int.le_refl _) hpos]
    rw [show iter g_jitter_Check_r1 (IntKind.i64.wrap (nx - 1), nx, p :: q, ((p :: q).length : Int), 0, ()) = _ from jcheck_iter hl (p :: q) [] _ rfl, Option.bind_some]
    cases okQ nx (IntKind.i64.wrap (nx - 1)) (p :: q) <;> rfl
  | false =>
   simp only [Bool.not_true, Bool.not_false, cond_false, Option.bind_some, Bool.true_and, cond_true]
   generalize decide (IntKind.i64.wrap (nx + dry) > 0) = b2
   cases b2 with
   | true => rfl
   | false =>
    simp only [cond_false, Bool.not_false, Bool.true_and]
    cases q with
    | nil => rfl
    | cons p q =>
     have hne : ((p :: q).length : Int) ≠ 0 := by rw [List.length_cons]; omega
     have hpos : ((0 : Int)) < ((p :: q).length : Int) := by rw [List.length_cons]; omega
     rw [eF hne, wT (Int.le_refl _) hpos]
     rw [show iter g_jitter_Check_r1 (-1, ((p :: q).getD 0 (0, [])).1, p :: q, ((p :: q).length : Int), 0, ()) = _ from jcheck_iter hl (p :: q) [] _ rfl, Option.bind_some]
     cases okQ ((p :: q).getD 0 (0, [])).1 (-1) (p :: q) <;> rfl
theorem goodK_len {p : Pk} (h : goodK p = true) : 0 < p.2.length ∧ p.2.length ≤ 40 ∧ 0 ≤ p.1 ∧ p.1 ≤ 1099511627776 := by
 unfold goodK at h
 simp only [Bool.and_eq_true, decide_eq_true_eq] at h
 omega
theorem stepQ_iff {fr last : Int} {p : Pk} (hf : 0 ≤ fr) (hf2 : fr ≤ 4398046511104) : stepQ fr last p = true ↔ goodK p = true ∧ last < p.1 ∧ p.1 < fr + 64 := by
 unfold stepQ
 rw [Bool.and_eq_true, Bool.and_eq_true]
 refine and_congr_right fun h => ?_
 obtain ⟨_, _, h1, h2⟩ := goodK_len h
 rw [wrap_i64 (by omega) (by omega)]
 simp only [Bool.not_eq_true', decide_eq_false_iff_not]
 omega
theorem okQ_good {fr : Int} : ∀ {l : List Pk} {last : Int}, okQ fr last l = true → ∀ p ∈ l, goodK p = true
 | [], _, _, p, hp => nomatch hp
 | q :: l, last, h, p, hp => by
  rw [okQ_cons, Bool.and_eq_true] at h
  rcases List.mem_cons.1 hp with rfl | hp
  ·have := h.1
   unfold stepQ at this
   rw [Bool.and_eq_true] at this
   exact this.1
  ·exact okQ_good h.2 p hp
def Rises (lo hi : Int) : List Pk → Prop
 | [] => True
 | p :: l => goodK p = true ∧ lo < p.1 ∧ p.1 < hi ∧ Rises p.1 hi l
theorem okQ_iff {fr : Int} (hf : 0 ≤ fr) (hf2 : fr ≤ 4398046511104) : ∀ {l : List Pk} {last : Int}, okQ fr last l = true ↔ Rises last (fr + 64) l
 | [], _ => by simp [okQ, Rises]
 | p :: l, last => by
  rw [okQ_cons, Bool.and_eq_true, stepQ_iff hf hf2, okQ_iff hf hf2]
  simp only [Rises, and_assoc]
theorem Rises.weak {lo lo' hi hi' : Int} : ∀ {l : List Pk}, Rises lo hi l → lo' ≤ lo → hi ≤ hi' → Rises lo' hi' l
 | [], _, _, _ => trivial
 | p :: l, h, h1, h2 => ⟨h.1, by have := h.2.1; omega, by have := h.2.2.1; omega, Rises.weak h.2.2.2 (Int.le_refl _) h2⟩
theorem Rises.len {hi : Int} : ∀ {l : List Pk} {lo : Int}, Rises lo hi l → lo ≤ hi → (l.length : Int) ≤ hi - lo
 | [], lo, _, h => by simp; omega
 | p :: l, lo, h, _ => by
  have := Rises.len h.2.2.2 (by have := h.2.2.1; omega)
  have := h.2.1
  simp only [List.length_cons, Int.natCast_add, Int.natCast_one]
  omega
structure GoodJ (j : Jt) : Prop where
 d1 : 1 ≤ j.2.2.1
 d2 : j.2.2.1 ≤ 16
 n1 : 0 ≤ j.2.1
 n2 : j.2.1 ≤ 2199023255552
 r1 : 0 ≤ j.2.2.2.1
 r2 : j.2.2.2.1 < 12
 off : j.1 = false → j.2.1 = 0 ∧ j.2.2.2.1 = 0
 on : j.1 = true → Rises (j.2.1 - 1) (j.2.1 + 64) j.2.2.2.2
 qs : j.1 = false → ∀ p q, j.2.2.2.2 = p :: q → Rises (-1) (p.1 + 64) j.2.2.2.2
theorem okJ_iff {j : Jt} : okJ j = true ↔ GoodJ j := by
 obtain ⟨on, nx, dp, dry, q⟩ := j
 unfold okJ
 simp only [Bool.and_eq_true, decide_eq_true_eq]
 constructor
 ·rintro ⟨⟨h1, h2, h3, h4, h5, h6⟩, h7, h8⟩
  refine ⟨h1, h2, h3, h4, h5, h6, ?_, ?_, ?_⟩
  ·rintro rfl
   simp only [cond_false, Bool.not_eq_true', decide_eq_false_iff_not] at h7
   rw [wrap_i64 (by omega) (by omega)] at h7
   show nx = 0 ∧ dry = 0
   omega
  ·rintro rfl
   simp only [cond_true] at h8
   rw [okQ_iff h3 (by omega), wrap_i64 (by omega) (by omega)] at h8
   exact h8
  ·rintro rfl p l e
   have e : q = p :: l := e
   subst e
   simp only [cond_false, List.getD_cons_zero] at h8
   have hg := goodK_len (okQ_good h8 p List.mem_cons_self)
   rw [okQ_iff (by omega) (by omega)] at h8
   exact h8
 ·intro h
  obtain ⟨h1, h2, h3, h4, h5, h6, h7, h8, h9⟩ := h
  dsimp only at h1 h2 h3 h4 h5 h6 h7 h8 h9
  refine ⟨⟨h1, h2, h3, h4, h5, h6⟩, ?_, ?_⟩
  ·cases on with
   | true => rfl
   | false =>
    obtain ⟨e1, e2⟩ := h7 rfl
    rw [e1, e2]; rfl
  ·cases on with
   | true =>
    simp only [cond_true]
    rw [okQ_iff h3 (by omega), wrap_i64 (by omega) (by omega)]
    exact h8 rfl
   | false =>
    cases q with
    | nil => rfl
    | cons p l =>
     have := h9 rfl p l rfl
     have hg := goodK_len this.1
     simp only [cond_false, List.getD_cons_zero]
     rw [okQ_iff (by omega) (by omega)]
     exact this
theorem GoodJ.len {j : Jt} (h : GoodJ j) : j.2.2.2.2.length ≤ 2000000000000 := by
 cases hon : j.1 with
 | true =>
  have := Rises.len (h.on hon) (by omega)
  omega
 | false =>
  cases hq : j.2.2.2.2 with
  | nil => exact Nat.zero_le _
  | cons p q =>
   have h9 := h.qs hon p q hq
   rw [hq] at h9
   have := goodK_len h9.1
   have := Rises.len h9 (by omega)
   omega
theorem Rises.good {lo hi : Int} : ∀ {l : List Pk}, Rises lo hi l → ∀ p ∈ l, goodK p = true
 | [], _, p, hp => nomatch hp
 | q :: l, h, p, hp => by
  rcases List.mem_cons.1 hp with rfl | hp
  ·exact h.1
  ·exact Rises.good h.2.2.2 p hp
theorem GoodJ.good {j : Jt} (h : GoodJ j) : ∀ p ∈ j.2.2.2.2, goodK p = true := by
 cases hon : j.1 with
 | true => exact (h.on hon).good
 | false =>
  cases hq : j.2.2.2.2 with
  | nil => exact fun p hp => nomatch hp
  | cons p q => have := h.qs hon p q hq; rw [hq] at this; exact this.good
end Go.Sq
namespace Go.Sq
open Go.Rx
theorem cloneB {b : List Int} (h : b.length ≤ 1000000) : g_slices_Clone_Sbyte_byte b = some b := by
 unfold g_slices_Clone_Sbyte_byte
 rw [List.nil_append, rT (by omega)]
theorem set_sameP {q : List Pk} {i : Nat} {p : Pk} (h : q[i]? = some p) : q.set i p = q := by
 apply List.ext_getElem?
 intro k
 rw [List.getElem?_set]
 split
 ·rename_i e
  subst e
  split
  ·exact h.symm
  ·rename_i hn
   exact (List.getElem?_eq_none (by omega)).symm
 ·rfl
theorem jowned_eq {j : Jt} (hl : j.2.2.2.2.length ≤ 3000000000000) (hb : ∀ p ∈ j.2.2.2.2, p.2.length ≤ 1000000) : g_jitter_owned j = some j := by
 obtain ⟨on, nx, dp, dry, q⟩ := j
 have hl : q.length ≤ 3000000000000 := hl
 unfold g_jitter_owned
 dsimp only
 have e1 : g_slices_Clone_Sapi_Packet_api_Packet q = some q := by
  unfold g_slices_Clone_Sapi_Packet_api_Packet
  rw [List.nil_append, rT (by omega)]
 rw [e1, Option.bind_some]
 rw [show iter g_jitter_owned_r1 ((q.length : Int), 0, (on, nx, dp, dry, q), (false, 0, 0, 0, []), ()) = some ((on, nx, dp, dry, q), (false, 0, 0, 0, []), ()) from
  iter_count (fun i => ((q.length : Int), (i : Int), (on, nx, dp, dry, q), (false, 0, 0, 0, []), ())) q.length (fun i hi => by
   have hg : q[i]? = some q[i] := List.getElem?_eq_getElem hi
   have ws : IntKind.i64.wrap ((i : Int) + 1) = ((i + 1 : Nat) : Int) := by rw [wrap_i64 (by omega) (by omega)]; rfl
   have hc := cloneB (hb q[i] (List.getElem_mem hi))
   unfold g_jitter_owned_r1
   dsimp only
   rw [dT (by omega), wT (by omega) (by omega), Int.toNat_natCast, gD hg, hc, Option.bind_some, wT (by omega) (by omega), ws, set_sameP hg]) (by
   unfold g_jitter_owned_r1
   dsimp only
   rw [dF (by omega)])]
 rfl
theorem GoodJ.owned {j : Jt} (h : GoodJ j) : g_jitter_owned j = some j :=
 jowned_eq (by have := h.len; omega) fun p hp => by have := goodK_len (h.good p hp); omega
def pullJ (j : Jt) : Jt × Int × List Int × Int :=
 if j.1 = false ∧ (j.2.2.2.2.length : Int) < j.2.2.1 then (j, 0, [], 0) else
 let nx := bif j.1 then j.2.1 else (j.2.2.2.2.getD 0 (0, [])).1
 if 0 < j.2.2.2.2.length ∧ (j.2.2.2.2.getD 0 (0, [])).1 = nx then ((true, nx + 1, j.2.2.1, 0, j.2.2.2.2.drop 1), 1, (j.2.2.2.2.getD 0 (0, [])).2, 0)
 else if j.2.2.2.1 + 1 = 12 then ((false, 0, j.2.2.1, 0, []), 3, [], 0) else ((true, nx + 1, j.2.2.1, j.2.2.2.1 + 1, j.2.2.2.2), 2, [], 0)
theorem Pull_eq {j : Jt} (h : GoodJ j) (hl : j.2.2.2.2.length ≤ 1000000) : g_jitter_Pull j = some (pullJ j) := by
 have ho := h.owned
 unfold g_jitter_Pull
 rw [jitter_Check_eq hl, okJ_iff.2 h, Option.bind_some]
 have e1 : (err true != 0) = false := rfl
 rw [e1, cond_false, ho, Option.bind_some]
 obtain ⟨on, nx, dp, dry, q⟩ := j
 obtain ⟨h1, h2, h3, h4, h5, h6, h7, h8, h9⟩ := h
 dsimp only at h1 h2 h3 h4 h5 h6 h7 h8 h9 hl
 unfold pullJ
 dsimp only
 have wd : IntKind.i64.wrap (dry + 1) = dry + 1 := wrap_i64 (by omega) (by omega)
 have key : ∀ n : Int, 0 ≤ n → n ≤ 2199023255552 →
   (((bif (decide ((q.length : Int) > 0)) then bif (within 0 q.length) then some (((q.getD 0 (0, [])).1 == n), (true, n, dp, dry, q), (false, 0, 0, 0, []), ()) else none
    else some (false, (true, n, dp, dry, q), (false, 0, 0, 0, []), ()) : Option ((Bool × Jt × Jt × Unit))).bind fun j6 =>
   bif j6.1 then
   bif (within 0 j6.2.1.2.2.2.2.length) then
   bif (cutG 1 (j6.2.1.2.2.2.2.length : Int) j6.2.1.2.2.2.2.length) then
   some ((j6.2.1.1, ((IntKind.i64.wrap (j6.2.1.2.1 + 1)), (j6.2.1.2.2.1, (0, ((j6.2.1.2.2.2.2.drop 1).take ((j6.2.1.2.2.2.2.length : Int).toNat - 1)))))), (1, (((j6.2.1.2.2.2.2.getD 0 (0, []))).2, 0)))
   else none
   else none
   else
   bif ((IntKind.i64.wrap (j6.2.1.2.2.2.1 + 1)) == 12) then
   some ((false, (0, (j6.2.1.2.2.1, (0, [])))), (3, ([], 0)))
   else
   some ((j6.2.1.1, ((IntKind.i64.wrap (j6.2.1.2.1 + 1)), (j6.2.1.2.2.1, ((IntKind.i64.wrap (j6.2.1.2.2.2.1 + 1)), j6.2.1.2.2.2.2)))), (2, ([], 0)))) : Option (Jt × Int × List Int × Int)) =
   some (if 0 < q.length ∧ (q.getD 0 (0, [])).1 = n then ((true, n + 1, dp, 0, q.drop 1), 1, (q.getD 0 (0, [])).2, 0)
    else if dry + 1 = 12 then ((false, 0, dp, 0, []), 3, [], 0) else ((true, n + 1, dp, dry + 1, q), 2, [], 0)) := by
  intro n hn hn2
  have wn : IntKind.i64.wrap (n + 1) = n + 1 := wrap_i64 (by omega) (by omega)
  have tail : (bif ((IntKind.i64.wrap (dry + 1)) == 12) then some ((false, (0, (dp, (0, [])))), (3, ([], 0))) else some ((true, ((IntKind.i64.wrap (n + 1)), (dp, ((IntKind.i64.wrap (dry + 1)), q)))), (2, ([], 0))) : Option (Jt × Int × List Int × Int)) =
    some (if dry + 1 = 12 then ((false, 0, dp, 0, []), 3, [], 0) else ((true, n + 1, dp, dry + 1, q), 2, [], 0)) := by
   rw [wd, wn]
   by_cases h12 : dry + 1 = 12
   ·rw [eT h12, if_pos h12]
   ·rw [eF h12, if_neg h12]
  cases q with
  | nil =>
   rw [if_neg (by simp)]
   exact tail
  | cons p q =>
   have hpos : (0 : Int) < ((p :: q).length : Int) := by rw [List.length_cons]; omega
   rw [dT hpos, wT (Int.le_refl _) hpos, Option.bind_some]
   dsimp only
   by_cases hp : ((p :: q).getD 0 (0, [])).1 = n
   ·rw [eT hp, wT (Int.le_refl _) hpos, gT (by omega) (by omega) (Int.le_refl _), if_pos ⟨by omega, hp⟩, wn, Int.toNat_natCast]
    have : ((p :: q).drop 1).take ((p :: q).length - 1) = (p :: q).drop 1 := by simp
    rw [this]
   ·rw [eF hp, if_neg (fun h => hp h.2)]
    exact tail
 cases on with
 | true =>
  rw [if_neg (fun h => by cases h.1)]
  simp only [Bool.not_true, cond_false, cond_true, Option.bind_some]
  exact key nx h3 h4 
 | false =>
  simp only [Bool.not_false, cond_false, cond_true]
  by_cases hq : (q.length : Int) < dp
  ·rw [dT hq, if_pos ⟨trivial, hq⟩]; rfl
  ·rw [dF hq, if_neg (fun h => hq h.2), wT (Int.le_refl _) (by omega), Option.bind_some]
   cases q with
   | nil => simp at hq; omega
   | cons p l =>
    have := goodK_len (h9 rfl p l rfl).1
    refine (key ((p :: l).getD 0 (0, [])).1 (by show 0 ≤ p.1; omega) (by show p.1 ≤ _; omega)).trans ?_
    rw [if_pos ⟨by simp, rfl⟩, if_pos ⟨by simp, trivial⟩] 
theorem pull_good {j : Jt} (h : GoodJ j) (hn : j.2.1 ≤ 1200000000000) : GoodJ (pullJ j).1 ∧ (∀ B, 1099511627777 ≤ B → j.2.1 + 1 ≤ B → (pullJ j).1.2.1 ≤ B) ∧ (pullJ j).2.2.2 = 0 ∧ (pullJ j).1.2.2.2.2.length ≤ j.2.2.2.2.length ∧ (pullJ j).1.2.2.1 = j.2.2.1 := by
  obtain ⟨on, nx, dp, dry, q⟩ := j
  obtain ⟨h1, h2, h3, h4, h5, h6, h7, h8, h9⟩ := h
  dsimp only at h1 h2 h3 h4 h5 h6 h7 h8 h9 hn
  have key : ∀ n : Int, 0 ≤ n → n ≤ 1200000000000 → Rises (n - 1) (n + 64) q → ∀ x, x = (if 0 < q.length ∧ (q.getD 0 (0, [])).1 = n then ((true, n + 1, dp, 0, q.drop 1), 1, (q.getD 0 (0, [])).2, 0)
        else if dry + 1 = 12 then ((false, 0, dp, 0, []), 3, [], 0) else ((true, n + 1, dp, dry + 1, q), 2, [], 0) : Jt × Int × List Int × Int) →
      GoodJ x.1 ∧ x.1.2.1 ≤ n + 1 ∧ x.2.2.2 = 0 ∧ x.1.2.2.2.2.length ≤ q.length ∧ x.1.2.2.1 = dp := by
    intro n hn1 hn2 hR x hx
    cases q with
    | nil =>
      rw [if_neg (by simp)] at hx
      by_cases h12 : dry + 1 = 12
      · rw [if_pos h12] at hx
        subst hx
        exact ⟨⟨h1, h2, Int.le_refl _, (by decide : (0 : Int) ≤ 2199023255552), Int.le_refl _, (by decide : (0 : Int) < 12), fun _ => ⟨rfl, rfl⟩, (fun h => by cases h), (fun _ p q h => by cases h)⟩, by show (0 : Int) ≤ _; omega, rfl, Nat.le_refl _, rfl⟩
      · rw [if_neg h12] at hx
        subst hx
        exact ⟨⟨h1, h2, by show (0 : Int) ≤ n + 1; omega, by show n + 1 ≤ _; omega, by show (0 : Int) ≤ dry + 1; omega, by show dry + 1 < 12; omega, (fun h => by cases h), fun _ => trivial, (fun h => by cases h)⟩, Int.le_refl _, rfl, Nat.le_refl _, rfl⟩
    | cons p l =>
      obtain ⟨r1, r2, r3, r4⟩ := hR
      by_cases hp : p.1 = n
      · rw [if_pos ⟨by simp, hp⟩] at hx
        subst hx
        refine ⟨⟨h1, h2, by show (0 : Int) ≤ n + 1; omega, by show n + 1 ≤ _; omega, Int.le_refl _, by show (0 : Int) < 12; decide, (fun h => by cases h), fun _ => ?_, (fun h => by cases h)⟩, Int.le_refl _, rfl, by simp, rfl⟩
        show Rises (n + 1 - 1) (n + 1 + 64) l
        exact r4.weak (by omega) (by omega)
      · rw [if_neg (fun h => hp h.2)] at hx
        by_cases h12 : dry + 1 = 12
        · rw [if_pos h12] at hx
          subst hx
          exact ⟨⟨h1, h2, Int.le_refl _, (by decide : (0 : Int) ≤ 2199023255552), Int.le_refl _, (by decide : (0 : Int) < 12), fun _ => ⟨rfl, rfl⟩, (fun h => by cases h), (fun _ p q h => by cases h)⟩, by show (0 : Int) ≤ _; omega, rfl, Nat.zero_le _, rfl⟩
        · rw [if_neg h12] at hx
          subst hx
          refine ⟨⟨h1, h2, by show (0 : Int) ≤ n + 1; omega, by show n + 1 ≤ _; omega, by show (0 : Int) ≤ dry + 1; omega, by show dry + 1 < 12; omega, (fun h => by cases h), fun _ => ?_, (fun h => by cases h)⟩, Int.le_refl _, rfl, Nat.le_refl _, rfl⟩
          show Rises (n + 1 - 1) (n + 1 + 64) (p :: l)
          exact ⟨r1, by omega, by omega, r4.weak (Int.le_refl _) (by omega)⟩
  unfold pullJ
  dsimp only
  cases on with
  | true =>
    rw [if_neg (fun h => by cases h.1)]
    obtain ⟨k1, k2, k3, k4, k5⟩ := key nx h3 hn (h8 rfl) _ rfl
    exact ⟨k1, fun B _ hB => Int.le_trans k2 hB, k3, k4, k5⟩
  | false =>
    by_cases hq : (q.length : Int) < dp
    · rw [if_pos ⟨rfl, hq⟩]
      exact ⟨⟨h1, h2, h3, h4, h5, h6, h7, h8, h9⟩, fun B _ hB => (by omega : nx ≤ B), rfl, Nat.le_refl _, rfl⟩
    · rw [if_neg (fun h => hq h.2)]
      cases q with
      | nil => simp at hq; omega
      | cons p l =>
        have hg := h9 rfl p l rfl
        have := goodK_len hg.1
        obtain ⟨k1, k2, k3, k4, k5⟩ := key p.1 (by omega) (by omega) ⟨hg.1, by omega, hg.2.2.1, hg.2.2.2⟩ _ rfl
        exact ⟨k1, fun B hB _ => Int.le_trans k2 (by omega), k3, k4, k5⟩
end Go.Sq
namespace Go.Sq
open Go.Rx
abbrev Er := Int × Int × Jt × SyT × Bool × Int
def inC (n : Int) : Bool := decide (0 ≤ n) && decide (n ≤ 1099511627776)
theorem counted1_eq (n : Int) : g_listen_counted_1 n = some (!inC n) := by
 unfold g_listen_counted_1 inC
 by_cases h : n < 0
 ·rw [dT h, decide_eq_false (by omega)]; rfl
 ·rw [dF h, decide_eq_true (p := 0 ≤ n) (by omega), Bool.true_and]
  by_cases h2 : n ≤ 1099511627776
  ·rw [decide_eq_true h2, decide_eq_false (by omega)]; rfl
  ·rw [decide_eq_false h2, decide_eq_true (by omega)]; rfl
theorem counted_iter {l : List Int} (hl : l.length ≤ 1000) : ∀ (l2 l1 : List Int), l = l1 ++ l2 →
  (l2.all inC = true ∧ iter g_listen_counted_r1 (l, (l.length : Int), (l1.length : Int), ()) = some (.inl (l, ()))) ∨ (l2.all inC = false ∧ ∃ k : Nat, iter g_listen_counted_r1 (l, (l.length : Int), (l1.length : Int), ()) = some (.inr (l, (k : Int), ())))
 | [], l1, e => by
  left
  refine ⟨rfl, iter_inr ?_⟩
  rw [List.append_nil] at e
  unfold g_listen_counted_r1
  dsimp only
  rw [dF (by rw [e]; omega)]
 | n :: l2, l1, e => by
  have hg : l[l1.length]? = some n := by rw [e]; simp
  have hi := lt_of_get hg
  have ws : IntKind.i64.wrap ((l1.length : Int) + 1) = ((l1.length + 1 : Nat) : Int) := by rw [wrap_i64 (by omega) (by omega)]; rfl
  have hr : g_listen_counted_r1 (l, (l.length : Int), (l1.length : Int), ()) = some (bif inC n then .inl (l, (l.length : Int), ((l1.length + 1 : Nat) : Int), ()) else .inr (.inr (l, (l1.length : Int), ()))) := by
   unfold g_listen_counted_r1
   dsimp only
   rw [dT (by omega), wT (by omega) (by omega), Int.toNat_natCast, gD hg, counted1_eq, Option.bind_some, ws]
   cases inC n <;> rfl
  rw [List.all_cons]
  cases hc : inC n with
  | true =>
   rw [hc, cond_true] at hr
   rw [iter_inl hr, Bool.true_and]
   have := counted_iter hl l2 (l1 ++ [n]) (by rw [e]; simp)
   rwa [List.length_append, List.length_singleton] at this
  | false =>
   rw [hc, cond_false] at hr
   exact .inr ⟨rfl, l1.length, iter_inr hr⟩
theorem counted_eq {l : List Int} (hl : l.length ≤ 1000) : g_listen_counted l = some (l.all inC) := by
 unfold g_listen_counted
 rcases counted_iter hl l [] rfl with ⟨h1, h2⟩ | ⟨h1, k, h2⟩
 ·rw [show iter g_listen_counted_r1 (l, (l.length : Int), 0, ()) = _ from h2, h1]; rfl
 ·rw [show iter g_listen_counted_r1 (l, (l.length : Int), 0, ()) = _ from h2, h1]
  simp only [Option.bind_some]
  rw [decide_eq_true (Int.natCast_nonneg k)]; rfl
def zE : Er := (0, 0, (false, 0, 0, 0, []), (List.replicate 16 0, List.replicate 6 0, false, false, 0), false, 0)
structure GoodE (e : Er) : Prop where
 c1 : inC e.1 = true
 c2 : inC e.2.1 = true
 c3 : inC e.2.2.2.2.2 = true
 s : okY e.2.2.2.1
 j : GoodJ e.2.2.1
structure SzE (e : Er) : Prop where
 s : sizedY e.2.2.2.1
 q : e.2.2.1.2.2.2.2.length ≤ 1000000
noncomputable instance (e : Er) : Decidable (GoodE e) := Classical.propDecidable _
theorem listen_Check_eq {e : Er} (hz : SzE e) : g_listen_Check e = some (if GoodE e then 0 else 1) := by
 unfold g_listen_Check
 rw [counted_eq (by simp), Option.bind_some, decoder_Check_eq hz.s]
 simp only [List.all_cons, List.all_nil, Bool.and_true]
 by_cases h : inC e.1 = true ∧ inC e.2.1 = true ∧ inC e.2.2.2.2.2 = true
 ·obtain ⟨h1, h2, h3⟩ := h
  rw [h1, h2, h3, Option.bind_some]
  simp only [Bool.and_true, Bool.not_true, cond_false]
  by_cases h4 : okY e.2.2.2.1
  ·rw [show ckY e.2.2.2.1 = 0 from if_pos h4]
   rw [nF rfl, jitter_Check_eq hz.q, Option.bind_some]
   by_cases h5 : okJ e.2.2.1 = true
   ·rw [h5, if_pos ⟨h1, h2, h3, h4, okJ_iff.1 h5⟩]; rfl
   ·rw [Bool.eq_false_iff.2 h5, if_neg (fun h => h5 (okJ_iff.2 h.j))]; rfl
  ·rw [show ckY e.2.2.2.1 = 1 from if_neg h4, if_neg (fun h => h4 h.s)]; rfl
 ·rw [if_neg (fun g => h ⟨g.c1, g.c2, g.c3⟩)]
  have : (inC e.1 && (inC e.2.1 && inC e.2.2.2.2.2)) = false := by
   rw [Bool.eq_false_iff]
   intro hh
   rw [Bool.and_eq_true, Bool.and_eq_true] at hh
   exact h hh
  rw [this]; rfl
abbrev Dr := SyT × Bool × Int
noncomputable def missD (d : Dr) : Dr × List Int :=
 if d.2.1 = false then ((d.1, d.2.1, d.2.2 + 1), zP) else
 let r := if d.1.2.2.2.1 = true then restY d.1 else fadeY d.1 (if 255 < 16 * (d.2.2 + 1) then 255 else 16 * (d.2.2 + 1))
 (((if r.2.2 = 0 then r.1 else d.1), d.2.1, d.2.2 + 1), r.2.1)
noncomputable def heardD (d : Dr) (b : List Int) : Dr × List Int :=
 if (kindF b).2 ≠ 0 ∨ (d.2.1 = false ∧ (kindF b).1 ≠ 0) ∨ (stepY d.1 b).2.2 ≠ 0 then missD d else (((stepY d.1 b).1, true, 0), (stepY d.1 b).2.1)
theorem missD_fade {d : Dr} (h0 : 0 ≤ d.2.2) (h1 : d.2.2 ≤ 1099511627776) : (if 255 < IntKind.i64.wrap (16 * IntKind.i64.wrap (d.2.2 + 1)) then (255 : Int) else IntKind.i64.wrap (16 * IntKind.i64.wrap (d.2.2 + 1))) = (if 255 < 16 * (d.2.2 + 1) then 255 else 16 * (d.2.2 + 1)) := by
 rw [wrap_i64 (n := d.2.2 + 1) (by omega) (by omega), wrap_i64 (n := 16 * (d.2.2 + 1)) (by omega) (by omega)]
theorem miss_code {X : Type} {x : X} {a b : Int} {j : Jt} {s : SyT} {on : Bool} {mi : Int} (hs : sizedY s) (h0 : 0 ≤ mi) (h1 : mi ≤ 1099511627776) :
  (bif (!on) then some (x, (a, (b, (j, (s, (on, (IntKind.i64.wrap (mi + 1))))))), (List.replicate 16 0), ()) else
   (bif s.2.2.2.1 then (g_decoder_Rest s).bind fun y8 => some (y8.2.2, (a, (b, (j, (s, (on, (IntKind.i64.wrap (mi + 1))))))), y8.2.1, y8.1, ())
    else (g_decoder_Fade s (if 255 < (IntKind.i64.wrap (16 * (IntKind.i64.wrap (mi + 1)))) then 255 else (IntKind.i64.wrap (16 * (IntKind.i64.wrap (mi + 1)))))).bind fun y9 => some (y9.2.2, (a, (b, (j, (s, (on, (IntKind.i64.wrap (mi + 1))))))), y9.2.1, y9.1, ()) : Option ((Int × Er × List Int × SyT × Unit))).bind fun j10 =>
   (bif (j10.1 == 0) then some ((j10.2.1.1, (j10.2.1.2.1, (j10.2.1.2.2.1, (j10.2.2.2.1, j10.2.1.2.2.2.2)))), j10.2.2.1, ()) else some (j10.2.1, j10.2.2.1, ()) : Option ((Er × List Int × Unit))).bind fun j11 => some (x, j11.1, j11.2.1, ()) : Option (X × Er × List Int × Unit)) =
  some (x, (a, b, j, (missD (s, on, mi)).1), (missD (s, on, mi)).2, ()) := by
 unfold missD
 have wm : IntKind.i64.wrap (mi + 1) = mi + 1 := wrap_i64 (by omega) (by omega)
 have wf := missD_fade (d := (s, on, mi)) h0 h1
 dsimp only at wf ⊢
 rw [wf, wm]
 generalize (if 255 < 16 * (mi + 1) then (255 : Int) else 16 * (mi + 1)) = V
 cases on with
 | false => rfl
 | true =>
  rw [if_neg (show ¬ (true = false) by decide)]
  simp only [Bool.not_true, cond_false]
  cases hh : s.2.2.2.1 with
  | true =>
   rw [cond_true, decoder_Rest_eq hs]
   simp only [Option.bind_some, if_true]
   by_cases h : (restY s).2.2 = 0
   ·rw [eT h, if_pos h]; rfl
   ·rw [eF h, if_neg h]; rfl
  | false =>
   rw [cond_false, decoder_Fade_eq hs]
   simp only [Option.bind_some, Bool.false_eq_true, if_false]
   by_cases h : (fadeY s V).2.2 = 0
   ·rw [eT h, if_pos h]; rfl
   ·rw [eF h, if_neg h]; rfl
end Go.Sq
namespace Go.Sq
open Go.Rx
theorem Open_eq {a b d : Int} (h1 : inC a = true) (h2 : inC b = true) (h3 : 1 ≤ d) (h4 : d ≤ 16) : g_listen_Open a b d = some ((a, b, (false, 0, d, 0, []), sY, false, 0), 0) := by
 have e1 : g_jitter_New d = some ((false, 0, d, 0, []), 0) := by
  unfold g_jitter_New
  rw [dF (by omega), decide_eq_false (by omega)]; rfl
 unfold g_listen_Open
 rw [e1, Option.bind_some, nF rfl, counted_eq (by simp), Option.bind_some, Option.bind_some]
 simp only [List.all_cons, List.all_nil, h1, h2, Bool.and_true, Bool.not_true, cond_false]
 rfl
noncomputable def tickE (e : Er) : Er × List Int × Int × Int :=
 if (pullJ e.2.2.1).2.1 = 0 then ((e.1, e.2.1, (pullJ e.2.2.1).1, e.2.2.2), zP, 0, 0)
 else if (pullJ e.2.2.1).2.1 = 3 then ((e.1, e.2.1, (false, 0, e.2.2.1.2.2.1, 0, []), sY, false, 0), zP, 3, 0)
 else ((e.1, e.2.1, (pullJ e.2.2.1).1, (heardD e.2.2.2 (pullJ e.2.2.1).2.2.1).1), (heardD e.2.2.2 (pullJ e.2.2.1).2.2.1).2, (pullJ e.2.2.1).2.1, 0)
theorem pull_zero (j : Jt) : (pullJ j).2.2.2 = 0 := by
 unfold pullJ
 dsimp only
 repeat' split <;> try rfl
theorem inC_iff {n : Int} : inC n = true ↔ 0 ≤ n ∧ n ≤ 1099511627776 := by
 unfold inC
 rw [Bool.and_eq_true, decide_eq_true_eq, decide_eq_true_eq]
theorem Tick_eq {e : Er} (hz : SzE e) (hg : GoodE e) (hb : bytes (pullJ e.2.2.1).2.2.1) (hs : small (pullJ e.2.2.1).2.2.1) : g_listen_Tick e = some (tickE e) := by
 have hm := inC_iff.1 hg.c3
 have hk := frame_Kind_eq hb hs
 have hst := decoder_Step_eq hz.s hb hs
 have ho := Open_eq hg.c1 hg.c2 hg.j.d1 hg.j.d2
 have hp0 := pull_zero e.2.2.1
 unfold g_listen_Tick
 rw [listen_Check_eq hz, if_pos hg, Option.bind_some, nF rfl, Pull_eq hg.j hz.q, Option.bind_some, nF hp0]
 unfold tickE
 obtain ⟨ep, fr, j, s, on, mi⟩ := e
 dsimp only at hm hk hst ho hp0 ⊢
 have mc := fun x : List Int => @miss_code (List Int) x ep fr (pullJ j).1 s on mi hz.s hm.1 hm.2
 generalize pullJ j = p at *
 obtain ⟨j', is, b, f⟩ := p
 dsimp only at hp0 hk hst ho mc ⊢
 subst hp0
 by_cases h0 : is = 0
 ·rw [eT h0, if_pos h0, h0]; rfl
 rw [eF h0, if_neg h0]
 by_cases h3 : is = 3
 ·rw [eT h3, if_pos h3, ho, h3]; rfl
 rw [eF h3, if_neg h3, hk, Option.bind_some]
 have hmiss : (kindF b).2 ≠ 0 ∨ (on = false ∧ (kindF b).1 ≠ 0) ∨ (stepY s b).2.2 ≠ 0 → heardD (s, on, mi) b = missD (s, on, mi) := fun h => if_pos h
 by_cases k2 : (kindF b).2 ≠ 0
 ·rw [nT k2, hmiss (.inl k2)]
  simp only [Option.bind_some, cond_true, cond_false]
  rw [mc]; rfl
 have k2' : (kindF b).2 = 0 := by simpa using k2
 rw [nF k2']
 have rest : ∀ o : Bool, ((g_decoder_Step s b).bind fun y6 =>
   bif (y6.2.2 != 0) then some (b, false, (ep, (fr, (j', (s, (o, mi))))), (List.replicate 16 0), [0, 0, 0, 0, 0, 0, 0, 0, 0, 0, 0, 0, 0, 0, 0, 0], ())
   else some (b, true, (ep, (fr, (j', (y6.1, (true, 0))))), (List.replicate 16 0), y6.2.1, ()) : Option ((List Int × Bool × Er × List Int × List Int × Unit))) =
   some (bif (stepY s b).2.2 != 0 then (b, false, (ep, (fr, (j', (s, (o, mi))))), List.replicate 16 0, [0, 0, 0, 0, 0, 0, 0, 0, 0, 0, 0, 0, 0, 0, 0, 0], ()) else (b, true, (ep, (fr, (j', ((stepY s b).1, (true, 0))))), List.replicate 16 0, (stepY s b).2.1, ())) := by
  intro o
  rw [hst, Option.bind_some]
  cases (stepY s b).2.2 != 0 <;> rfl
 have good : (stepY s b).2.2 = 0 → ¬ (on = false ∧ (kindF b).1 ≠ 0) → heardD (s, on, mi) b = (((stepY s b).1, true, 0), (stepY s b).2.1) := fun h h2 => if_neg (fun h' => h'.elim (fun x => x k2') fun h' => h'.elim h2 fun x => x h)
 cases on with
 | false =>
  simp only [Bool.not_false, cond_true, Option.bind_some]
  by_cases k1 : (kindF b).1 = 0
  ·rw [nF k1, rest, Option.bind_some]
   by_cases h : (stepY s b).2.2 = 0
   ·rw [good h (fun x => x.2 k1), nF h]; rfl
   ·rw [hmiss (.inr (.inr h)), nT h]
    simp only [cond_false]
    have := mc b
    simp only [Bool.not_false, cond_true] at this
    rw [this]; rfl
  ·rw [nT k1, hmiss (.inr (.inl ⟨rfl, k1⟩))]
   simp only [Option.bind_some, cond_false, Bool.not_false, cond_true]
   rw [wrap_i64 (n := mi + 1) (by omega) (by omega)]; rfl
 | true =>
  simp only [Bool.not_true, cond_false, Option.bind_some]
  rw [rest, Option.bind_some]
  by_cases h : (stepY s b).2.2 = 0
  ·rw [good h (fun x => by cases x.1), nF h]; rfl
  ·rw [hmiss (.inr (.inr h)), nT h]
   simp only [cond_false]
   have := mc b
   simp only [Bool.not_true, cond_false] at this
   rw [this]; rfl
end Go.Sq
namespace Go.Sq
open Go.Rx
structure InvE (k : Nat) (e : Er) : Prop where
 g : GoodE e
 z : SzE e
 b : ∀ p ∈ e.2.2.1.2.2.2.2, bytes p.2
 n : e.2.2.1.2.1 ≤ 1099511627777 + k
 m : e.2.2.2.2.2 ≤ 1073741824 + k
theorem pull_b {j : Jt} (h : ∀ p ∈ j.2.2.2.2, bytes p.2) : bytes (pullJ j).2.2.1 ∧ ∀ p ∈ (pullJ j).1.2.2.2.2, bytes p.2 := by
 have hn : bytes [] := fun x hx => nomatch hx
 have hd : bytes ((j.2.2.2.2.getD 0 (0, [])).2) := by
  cases hq : j.2.2.2.2 with
  | nil => exact hn
  | cons p q => exact h p (by rw [hq]; exact List.mem_cons_self)
 unfold pullJ
 dsimp only
 split
 ·exact ⟨hn, h⟩
 ·split
  ·exact ⟨hd, fun p hp => h p (List.mem_of_mem_drop hp)⟩
  ·split
   ·exact ⟨hn, fun p hp => nomatch hp⟩
   ·exact ⟨hn, h⟩
theorem pull_len {j : Jt} (hg : GoodJ j) : (pullJ j).2.2.1.length ≤ 1000 := by
 have hd : (j.2.2.2.2.getD 0 (0, [])).2.length ≤ 1000 := by
  cases hq : j.2.2.2.2 with
  | nil => exact Nat.zero_le _
  | cons p q => have := goodK_len (hg.good p (by rw [hq]; exact List.mem_cons_self)); show p.2.length ≤ 1000; omega
 unfold pullJ
 dsimp only
 split
 ·exact Nat.zero_le _
 ·split
  ·exact hd
  ·split <;> exact Nat.zero_le _
theorem missD_inv {d : Dr} (hs : sizedY d.1) (ok : okY d.1) (h0 : 0 ≤ d.2.2) : sizedY (missD d).1.1 ∧ okY (missD d).1.1 ∧ (missD d).1.2.2 = d.2.2 + 1 ∧ (missD d).1.2.1 = d.2.1 := by
 unfold missD
 split
 ·exact ⟨hs, ok, rfl, rfl⟩
 ·dsimp only
  have hv : (1 : Int) ≤ (if 255 < 16 * (d.2.2 + 1) then 255 else 16 * (d.2.2 + 1)) := by split <;> omega
  generalize (if 255 < 16 * (d.2.2 + 1) then (255 : Int) else 16 * (d.2.2 + 1)) = v at hv
  by_cases hh : d.1.2.2.2.1 = true
  ·rw [if_pos hh]
   have r := restY_ok ok
   rw [if_pos r.2]
   exact ⟨restY_sized hs, r.1, rfl, rfl⟩
  ·rw [if_neg hh]
   have r := fadeY_ok ok hv
   rw [if_pos r.2]
   exact ⟨fadeY_sized v, r.1, rfl, rfl⟩
theorem heardD_inv {d : Dr} {b : List Int} (hs : sizedY d.1) (ok : okY d.1) (h0 : 0 ≤ d.2.2) (hb : bytes b) : sizedY (heardD d b).1.1 ∧ okY (heardD d b).1.1 ∧ 0 ≤ (heardD d b).1.2.2 ∧ (heardD d b).1.2.2 ≤ d.2.2 + 1 := by
 unfold heardD
 split
 ·obtain ⟨m1, m2, m3, _⟩ := missD_inv hs ok h0
  exact ⟨m1, m2, by omega, by omega⟩
 ·rename_i h
  have h2 : (stepY d.1 b).2.2 = 0 := Decidable.byContradiction fun x => h (.inr (.inr x))
  exact ⟨stepY_sized hb, (stepY_ok ok h2).1, Int.le_refl _, by show (0 : Int) ≤ _; omega⟩
theorem tick_inv {k : Nat} {e : Er} (hk : k ≤ 1000000) (h : InvE k e) : g_listen_Tick e = some (tickE e) ∧ InvE (k + 1) (tickE e).1 ∧ (tickE e).2.2.2 = 0 := by
 obtain ⟨hg, hz, hb, hn, hm⟩ := h
 have pb := pull_b hb
 have pl := pull_len hg.j
 have pg := pull_good hg.j (by omega)
 have hmi := inC_iff.1 hg.c3
 refine ⟨Tick_eq hz hg pb.1 (by unfold small; omega), ?_, ?_⟩
 ·unfold tickE
  split
  ·refine ⟨⟨hg.c1, hg.c2, hg.c3, hg.s, pg.1⟩, ⟨hz.s, Nat.le_trans pg.2.2.2.1 hz.q⟩, pb.2, ?_, ?_⟩
   ·exact pg.2.1 _ (by omega) (by omega)
   ·show e.2.2.2.2.2 ≤ _; omega
  ·split
   ·refine ⟨⟨hg.c1, hg.c2, rfl, sY_ok, ⟨hg.j.d1, hg.j.d2, Int.le_refl _, (by decide : (0 : Int) ≤ 2199023255552), Int.le_refl _, (by decide : (0 : Int) < 12), fun _ => ⟨rfl, rfl⟩, (fun h => by cases h), (fun _ p q h => by cases h)⟩⟩, ⟨sY_sized, Nat.zero_le _⟩, (fun p hp => nomatch hp), ?_, ?_⟩
    ·show (0 : Int) ≤ _; omega
    ·show (0 : Int) ≤ _; omega
   ·obtain ⟨d1, d2, d3, d4⟩ := heardD_inv (d := e.2.2.2) hz.s hg.s hmi.1 pb.1
    refine ⟨⟨hg.c1, hg.c2, inC_iff.2 ⟨d3, Int.le_trans d4 (by omega)⟩, d2, pg.1⟩, ⟨d1, Nat.le_trans pg.2.2.2.1 hz.q⟩, pb.2, ?_, ?_⟩
    ·exact pg.2.1 _ (by omega) (by omega)
    ·show (heardD e.2.2.2 (pullJ e.2.2.1).2.2.1).1.2.2 ≤ _
     omega
 ·unfold tickE
  split
  ·rfl
  ·split <;> rfl
end Go.Sq
namespace Go.Sq
open Go.Rx
end Go.Sq
namespace Go.Sq
open Go.Rx
theorem put_first {b : List Int} (h1 : 0 < b.length) (h2 : b.length ≤ 40) : g_jitter_Put (false, 0, 1, 0, []) [(7, b)] = some ((false, 0, 1, 0, [(7, b)]), [0], 0) := by
 have hg : goodK (7, b) = true := by
  unfold goodK
  rw [decide_eq_true (p := ((7, b) : Pk).1 ≥ 0) (by show (0 : Int) ≤ 7; decide), decide_eq_true (p := ((7, b) : Pk).1 ≤ 1099511627776) (by show (7 : Int) ≤ _; decide), decide_eq_true (p := (((7, b) : Pk).2.length : Int) > 0) (by show (0 : Int) < b.length; omega), decide_eq_true (p := (((7, b) : Pk).2.length : Int) ≤ 40) (by show (b.length : Int) ≤ 40; omega)]
  rfl
 have hok : okJ (false, 0, 1, 0, []) = true := rfl
 have i1 : iter g_jitter_Put_r1 ([(7, b)], 1, 0, ()) = some (.inl ([(7, b)], ())) := by
  refine (iter_inl (y := ([(7, b)], 1, 1, ())) ?_).trans (iter_inr rfl)
  unfold g_jitter_Put_r1
  have e0 : g_jitter_Put_1 (7, b) = some false := by unfold g_jitter_Put_1; rw [goodK_eq, hg]; rfl
  show ((g_jitter_Put_1 (7, b)).bind fun y3 => _) = _
  rw [e0]; rfl
 have hf : g_jitter_find (false, 0, 1, 0, []) 7 = some (0, false) := by
  unfold g_jitter_find
  rw [show iter g_jitter_find_r1 ([], 7, (([] : List Pk).length : Int), 0, (([] : List Pk).length : Int), ()) = some ([], 7, 0, 0, ()) from iter_inr rfl]
  rfl
 have hfar : g_jitter_far (false, 0, 1, 0, []) 7 = some false := rfl
 have hc := cloneB (b := b) (by omega)
 have hins : g_slices_Insert_Sapi_Packet_api_Packet [] 0 [(7, b)] = some [(7, b)] := rfl
 have i2 : ∀ z, iter g_jitter_Put_r2 ([], [(7, b)], 1, 0, (false, 0, 1, 0, []), z, ()) = some ([0], (false, 0, 1, 0, [(7, b)]), z, ()) := by
  intro z
  refine (iter_inl (y := ([0], [(7, b)], 1, 1, (false, 0, 1, 0, [(7, b)]), z, ())) ?_).trans (iter_inr rfl)
  unfold g_jitter_Put_r2
  show ((g_jitter_find (false, 0, 1, 0, []) 7).bind fun y11 => _) = _
  rw [hf]
  simp only [Option.bind_some, cond_false]
  show ((g_jitter_far (false, 0, 1, 0, []) 7).bind fun y13 => _).bind _ = _
  rw [hfar]
  simp only [Option.bind_some, cond_false]
  show ((g_slices_Clone_Sbyte_byte b).bind fun y14 => _).bind _ = _
  rw [hc]
  simp only [Option.bind_some]
  show ((g_slices_Insert_Sapi_Packet_api_Packet [] 0 [(7, b)]).bind fun y15 => _).bind _ = _
  rw [hins]
  rfl
 unfold g_jitter_Put
 rw [jitter_Check_eq (by simp), hok, Option.bind_some]
 have e1 : (err true != 0) = false := rfl
 have e2 : decide ((-1 : Int) ≥ 0) = false := rfl
 have hlen : (([(7, b)] : List Pk).length : Int) = 1 := rfl
 rw [e1, cond_false, hlen, i1]
 simp only [Option.bind_some]
 rw [e2, cond_false, jowned_eq (by simp) (by simp), Option.bind_some, hlen, i2]
 rfl
theorem zero_kind : kindF (writeF zFr (List.replicate 6 0)) = (0, 0) := kind_back zFr_sized zFr_ok
theorem zero_step : stepY sY (writeF zFr (List.replicate 6 0)) = soundY (zP, (List.replicate 6 0, (true, (false, 1)))) zP := by
 have e := show stepY sY (writeF zFr (List.replicate 6 0)) = _ from if_pos sY_ok
 have rb : readF (writeF zFr (List.replicate 6 0)) sY.2.1 = (zFr, 0) := read_back zFr_sized zFr_ok
 rw [e, rb, if_neg (by simp), if_neg (by simp [zFr]), if_neg (by simp [zFr])]
 show soundY _ (greatL (List.replicate 16 0) (List.replicate 6 0)) = _
 rw [great_zero]; rfl
theorem zero_len : 0 < (writeF zFr (List.replicate 6 0)).length ∧ (writeF zFr (List.replicate 6 0)).length ≤ 40 := by
 have hk := zero_kind
 unfold kindF at hk
 by_cases h : (writeF zFr (List.replicate 6 0)).length = 0 ∨ (writeF zFr (List.replicate 6 0)).length > 40
 ·rw [if_pos h] at hk
  cases hk
 ·omega
def eA : Er := (3, 1, (false, 0, 1, 0, []), sY, false, 0)
theorem goodJ0 : GoodJ (false, 0, 1, 0, []) := okJ_iff.1 rfl
theorem eA_inv : InvE 0 eA := ⟨⟨rfl, rfl, rfl, sY_ok, goodJ0⟩, ⟨sY_sized, Nat.zero_le _⟩, (fun p hp => nomatch hp), by show (0 : Int) ≤ _; decide, by show (0 : Int) ≤ _; decide⟩
theorem live14_eq : g_law14_live = some true := by
 have o1 : g_listen_Open 3 1 1 = some (eA, 0) := Open_eq rfl rfl (by decide) (by decide)
 obtain ⟨t1, _, _⟩ := tick_inv (by omega) eA_inv
 have t1e : tickE eA = (eA, zP, 0, 0) := rfl
 rw [t1e] at t1
 have w := frame_Write_ok zFr_sized (p := List.replicate 6 0) (by simp) zFr_ok
 have wb := write_bytes zFr_sized zFr_ok
 have zl := zero_len
 have zk := zero_kind
 have zs := zero_step
 have w : g_frame_Write (0, (List.replicate 6 0, List.replicate 16 0)) [0, 0, 0, 0, 0, 0] = some (writeF zFr (List.replicate 6 0), 0) := w
 generalize writeF zFr (List.replicate 6 0) = b at *
 have h1 : g_listen_Hear eA 3 1 (7, b) = some ((3, 1, (false, 0, 1, 0, [(7, b)]), sY, false, 0), true, 0) := by
  unfold g_listen_Hear
  rw [listen_Check_eq eA_inv.z, if_pos eA_inv.g, Option.bind_some, nF rfl]
  show ((some (([] ++ [(7, b)] : List Pk), true, eA, zE, ()) : Option (List Pk × Bool × Er × Er × Unit)).bind fun j3 => _) = _
  rw [Option.bind_some]
  show ((g_jitter_Put (false, 0, 1, 0, []) [(7, b)]).bind fun y4 => _) = _
  rw [put_first zl.1 zl.2]
  rfl
 have hb0 : (0 : Int) ≤ 7 := by decide
 have gk : goodK (7, b) = true := by
  unfold goodK
  rw [decide_eq_true (p := ((7, b) : Pk).1 ≥ 0) hb0, decide_eq_true (p := ((7, b) : Pk).1 ≤ 1099511627776) (by show (7 : Int) ≤ _; decide), decide_eq_true (p := (((7, b) : Pk).2.length : Int) > 0) (by show (0 : Int) < b.length; omega), decide_eq_true (p := (((7, b) : Pk).2.length : Int) ≤ 40) (by show (b.length : Int) ≤ 40; omega)]
  rfl
 have inv2 : InvE 0 (3, 1, (false, 0, 1, 0, [(7, b)]), sY, false, 0) :=
  ⟨⟨rfl, rfl, rfl, sY_ok, ⟨by show (1 : Int) ≤ 1; decide, by show (1 : Int) ≤ 16; decide, Int.le_refl _, by show (0 : Int) ≤ _; decide, Int.le_refl _, by show (0 : Int) < 12; decide, (fun _ => ⟨rfl, rfl⟩), (fun h => by cases h), (fun _ p q h => by
   have h : [((7, b) : Pk)] = p :: q := h
   injection h with h1 h2
   subst h1 h2
   exact ⟨gk, by show (-1 : Int) < 7; decide, by show (7 : Int) < 7 + 64; decide, trivial⟩)⟩⟩, ⟨sY_sized, by show 1 ≤ _; decide⟩,
   (fun p hp => by rcases List.mem_singleton.1 hp with rfl; exact wb.1), by show (0 : Int) ≤ _; decide, by show (0 : Int) ≤ _; decide⟩
 obtain ⟨t2, _, _⟩ := tick_inv (by omega) inv2
 have t2e : tickE (3, 1, (false, 0, 1, 0, [(7, b)]), sY, false, 0) = ((3, 1, (true, 8, 1, 0, []), (heardD (sY, false, 0) b).1), (heardD (sY, false, 0) b).2, 1, 0) := rfl
 have hd : heardD (sY, false, 0) b = (((stepY sY b).1, true, 0), (stepY sY b).2.1) := by
  refine if_neg ?_
  rw [zk, zs]
  rintro (h | ⟨_, h⟩ | h)
  ·exact h rfl
  ·exact h rfl
  ·exact h rfl
 rw [t2e, hd] at t2
 unfold g_law14_live
 rw [o1, Option.bind_some, t1, Option.bind_some, w, Option.bind_some, h1, Option.bind_some, t2, Option.bind_some]
 rfl
end Go.Sq
namespace Go.Sq
open Go.Rx
theorem plain_round {out l : List (List Int)} {N : Int} {i : Nat} {a b : Int} {j : Jt} {s : SyT} {on : Bool} {mi : Int} {c : List Int} (hc : l[i]? = some c) (hN : N = (l.length : Int)) (hl : l.length ≤ 1000) (ho : out.length ≤ 1000)
  (hs : sizedY s) (h0 : 0 ≤ mi) (h1 : mi ≤ 1099511627776) (hb : bytes c) (hsm : small c) :
  g_listen_Plain_r1 (out, l, N, (i : Int), (a, b, j, s, on, mi), ()) = some (.inl (out ++ [(heardD (s, on, mi) c).2], l, N, ((i + 1 : Nat) : Int), (a, b, j, (heardD (s, on, mi) c).1), ())) := by
 have hi := lt_of_get hc
 have ws : IntKind.i64.wrap ((i : Int) + 1) = ((i + 1 : Nat) : Int) := by rw [wrap_i64 (by omega) (by omega)]; rfl
 have hk := frame_Kind_eq hb hsm
 have hst := decoder_Step_eq hs hb hsm
 have mc := fun x : List Int => @miss_code (List Int) x a b j s on mi hs h0 h1
 have hr : ∀ x : List Int, room 128 (out ++ [x]).length = true := fun x => room_iff.2 (by rw [List.length_append, List.length_singleton]; omega)
 unfold g_listen_Plain_r1
 dsimp only
 rw [dT (by omega), wT (by omega) (by omega), Int.toNat_natCast, gD hc, hk, Option.bind_some]
 have hmiss : (kindF c).2 ≠ 0 ∨ (on = false ∧ (kindF c).1 ≠ 0) ∨ (stepY s c).2.2 ≠ 0 → heardD (s, on, mi) c = missD (s, on, mi) := fun h => if_pos h
 have missfin : ∀ z : List Int, ((some (c, false, (a, b, j, s, on, mi), (List.replicate 16 0 : List Int), z, ()) : Option (List Int × Bool × Er × List Int × List Int × Unit)).bind fun j6 =>
   (bif j6.2.1 then bif (room 128 (out ++ [j6.2.2.2.2.1]).length) then some ((out ++ [j6.2.2.2.2.1]), l, N, (i : Int), j6.2.2.1, ()) else none
   else
    (bif (!j6.2.2.1.2.2.2.2.1) then some (j6.1, (j6.2.2.1.1, (j6.2.2.1.2.1, (j6.2.2.1.2.2.1, (j6.2.2.1.2.2.2.1, (j6.2.2.1.2.2.2.2.1, (IntKind.i64.wrap (j6.2.2.1.2.2.2.2.2 + 1))))))), (List.replicate 16 0), ())
    else
     (bif j6.2.2.1.2.2.2.1.2.2.2.1 then (g_decoder_Rest j6.2.2.1.2.2.2.1).bind fun y7 => some (y7.2.2, (j6.2.2.1.1, (j6.2.2.1.2.1, (j6.2.2.1.2.2.1, (j6.2.2.1.2.2.2.1, (j6.2.2.1.2.2.2.2.1, (IntKind.i64.wrap (j6.2.2.1.2.2.2.2.2 + 1))))))), y7.2.1, y7.1, ())
     else (g_decoder_Fade j6.2.2.1.2.2.2.1 (if 255 < (IntKind.i64.wrap (16 * (IntKind.i64.wrap (j6.2.2.1.2.2.2.2.2 + 1)))) then 255 else (IntKind.i64.wrap (16 * (IntKind.i64.wrap (j6.2.2.1.2.2.2.2.2 + 1)))))).bind fun y8 => some (y8.2.2, (j6.2.2.1.1, (j6.2.2.1.2.1, (j6.2.2.1.2.2.1, (j6.2.2.1.2.2.2.1, (j6.2.2.1.2.2.2.2.1, (IntKind.i64.wrap (j6.2.2.1.2.2.2.2.2 + 1))))))), y8.2.1, y8.1, ()) : Option ((Int × Er × List Int × SyT × Unit))).bind fun j9 =>
     (bif (j9.1 == 0) then some ((j9.2.1.1, (j9.2.1.2.1, (j9.2.1.2.2.1, (j9.2.2.2.1, j9.2.1.2.2.2.2)))), j9.2.2.1, ()) else some (j9.2.1, j9.2.2.1, ()) : Option ((Er × List Int × Unit))).bind fun j10 => some (j6.1, j10.1, j10.2.1, ()) : Option ((List Int × Er × List Int × Unit))).bind fun j11 =>
    bif (room 128 (out ++ [j11.2.2.1]).length) then some ((out ++ [j11.2.2.1]), l, N, (i : Int), j11.2.1, ()) else none : Option (List (List Int) × List (List Int) × Int × Int × Er × Unit))) =
   some (out ++ [(missD (s, on, mi)).2], l, N, (i : Int), (a, b, j, (missD (s, on, mi)).1), ()) := by
  intro z
  rw [Option.bind_some]
  dsimp only
  rw [cond_false, mc c, Option.bind_some]
  dsimp only
  rw [hr, cond_true]
 have goodfin : (stepY s c).2.2 = 0 → heardD (s, on, mi) c = (((stepY s c).1, true, 0), (stepY s c).2.1) → True := fun _ _ => trivial
 by_cases k2 : (kindF c).2 ≠ 0
 ·rw [nT k2, Option.bind_some]
  dsimp only
  rw [cond_true, hmiss (.inl k2), missfin, ← ws]; rfl
 have k2' : (kindF c).2 = 0 := by simpa using k2
 rw [nF k2']
 have stepfin : ((stepY s c).2.2 = 0 → heardD (s, on, mi) c = (((stepY s c).1, true, 0), (stepY s c).2.1)) → ∀ (F : (List Int × Bool × Er × List Int × List Int × Unit) → Option (List (List Int) × List (List Int) × Int × Int × Er × Unit)),
   (F (c, false, (a, b, j, s, on, mi), List.replicate 16 0, [0, 0, 0, 0, 0, 0, 0, 0, 0, 0, 0, 0, 0, 0, 0, 0], ()) = some (out ++ [(missD (s, on, mi)).2], l, N, (i : Int), (a, b, j, (missD (s, on, mi)).1), ())) →
   (F (c, true, (a, b, j, (stepY s c).1, true, 0), List.replicate 16 0, (stepY s c).2.1, ()) = some (out ++ [(stepY s c).2.1], l, N, (i : Int), (a, b, j, (stepY s c).1, true, 0), ())) →
   (((g_decoder_Step s c).bind fun y5 =>
    bif (y5.2.2 != 0) then some (c, false, (a, b, j, s, on, mi), (List.replicate 16 0), [0, 0, 0, 0, 0, 0, 0, 0, 0, 0, 0, 0, 0, 0, 0, 0], ())
    else some (c, true, (a, (b, (j, (y5.1, (true, 0))))), (List.replicate 16 0), y5.2.1, ()) : Option ((List Int × Bool × Er × List Int × List Int × Unit))).bind F) =
   some (out ++ [(heardD (s, on, mi) c).2], l, N, (i : Int), (a, b, j, (heardD (s, on, mi) c).1), ()) := by
  intro hgood F f1 f2
  rw [hst, Option.bind_some]
  by_cases h : (stepY s c).2.2 = 0
  ·rw [nF h, hgood h, Option.bind_some, f2]
  ·rw [nT h, hmiss (.inr (.inr h)), Option.bind_some, f1]
 have hgood : ¬ (on = false ∧ (kindF c).1 ≠ 0) → (stepY s c).2.2 = 0 → heardD (s, on, mi) c = (((stepY s c).1, true, 0), (stepY s c).2.1) := fun h2 h => if_neg (fun h' => h'.elim (fun x => x k2') fun h' => h'.elim h2 fun x => x h)
 cases on with
 | false =>
  simp only [Bool.not_false, cond_true]
  by_cases k1 : (kindF c).1 = 0
  ·rw [Option.bind_some]
   dsimp only
   rw [nF k1, stepfin (hgood fun x => x.2 k1) _ (by have := missfin [0, 0, 0, 0, 0, 0, 0, 0, 0, 0, 0, 0, 0, 0, 0, 0]; rwa [Option.bind_some] at this) (by dsimp only; rw [cond_true, hr, cond_true]), Option.bind_some, ← ws]
  ·rw [Option.bind_some]
   dsimp only
   rw [nT k1, hmiss (.inr (.inl ⟨rfl, k1⟩)), missfin, ← ws]; rfl
 | true =>
  simp only [Bool.not_true, cond_false]
  rw [Option.bind_some]
  dsimp only
  rw [cond_false, stepfin (hgood fun x => by cases x.1) _ (by have := missfin [0, 0, 0, 0, 0, 0, 0, 0, 0, 0, 0, 0, 0, 0, 0, 0]; rwa [Option.bind_some] at this) (by dsimp only; rw [cond_true, hr, cond_true]), Option.bind_some, ← ws]
noncomputable def playD : Dr → List (List Int) → List (List Int)
 | _, [] => []
 | d, b :: l => (heardD d b).2 :: playD (heardD d b).1 l
theorem playD_len : ∀ (l : List (List Int)) (d : Dr), (playD d l).length = l.length
 | [], _ => rfl
 | b :: l, d => by unfold playD; rw [List.length_cons, List.length_cons, playD_len l]
theorem plain_iter {l : List (List Int)} (hl : l.length ≤ 1000) (hb : ∀ b ∈ l, bytes b ∧ small b) : ∀ (l2 l1 out : List (List Int)) (a b : Int) (j : Jt) (d : Dr), l = l1 ++ l2 → out.length = l1.length → sizedY d.1 → okY d.1 → 0 ≤ d.2.2 → d.2.2 ≤ l1.length →
  iter g_listen_Plain_r1 (out, l, (l.length : Int), (l1.length : Int), (a, b, j, d), ()) = some (out ++ playD d l2, ())
 | [], l1, out, a, b, j, d, e, ho, _, _, _, _ => by
  rw [List.append_nil] at e
  refine iter_inr ?_
  unfold g_listen_Plain_r1
  dsimp only
  rw [dF (by rw [e]; omega)]
  show some (Sum.inr (out, ())) = some (Sum.inr (out ++ [], ()))
  rw [List.append_nil]
 | c :: l2, l1, out, a, b, j, d, e, ho, hs, ok, h0, h1 => by
  have hc : l[l1.length]? = some c := by rw [e]; simp
  have hi := lt_of_get hc
  have hbc := hb c (mem_of_get hc)
  obtain ⟨s, on, mi⟩ := d
  dsimp only at hs ok h0 h1
  obtain ⟨v1, v2, v3, v4⟩ := heardD_inv (d := (s, on, mi)) hs ok h0 hbc.1
  have v4 : (heardD (s, on, mi) c).1.2.2 ≤ mi + 1 := v4
  rw [iter_inl (plain_round hc rfl hl (by omega) hs h0 (by omega) hbc.1 hbc.2)]
  have := plain_iter hl hb l2 (l1 ++ [c]) (out ++ [(heardD (s, on, mi) c).2]) a b j (heardD (s, on, mi) c).1 (by rw [e]; simp) (by simp [ho]) v1 v2 v3 (by rw [List.length_append, List.length_singleton]; omega)
  rw [List.length_append, List.length_singleton] at this
  rw [this, List.append_assoc]; rfl
def dY : Dr := (sY, false, 0)
theorem Plain_eq {l : List (List Int)} (hl : l.length ≤ 1000) (hb : ∀ b ∈ l, bytes b ∧ small b) : g_listen_Plain l = some (playD dY l) := by
 unfold g_listen_Plain
 rw [start_eq, Option.bind_some, show iter g_listen_Plain_r1 ([], l, (l.length : Int), 0, (0, (0, ((false, (0, (0, (0, [])))), (sY, (false, 0))))), ()) = _ from
  plain_iter hl hb l [] [] 0 0 (false, 0, 0, 0, []) dY rfl rfl sY_sized sY_ok (Int.le_refl _) (by show (0 : Int) ≤ _; omega)]
 rfl
theorem zP_check : g_lapped_Check zP = some 0 := by
 have h := lapped_Check_lap zP zW
 rwa [lapP_zero] at h
theorem missD_check {d : Dr} (ok : okY d.1) (h0 : 0 ≤ d.2.2) : g_lapped_Check (missD d).2 = some 0 := by
 unfold missD
 split
 ·exact zP_check
 ·dsimp only
  have hv : (1 : Int) ≤ (if 255 < 16 * (d.2.2 + 1) then 255 else 16 * (d.2.2 + 1)) := by split <;> omega
  generalize (if 255 < 16 * (d.2.2 + 1) then (255 : Int) else 16 * (d.2.2 + 1)) = v at hv
  by_cases hh : d.1.2.2.2.1 = true
  ·rw [if_pos hh]
   have e : restY d.1 = hissY d.1 := by
    have := show restY d.1 = _ from if_pos ok
    rw [this, hh]; rfl
   rw [e]; exact lapped_Check_lap _ _
  ·rw [if_neg hh]; exact fade_check ok hv
theorem heardD_check {d : Dr} {b : List Int} (ok : okY d.1) (h0 : 0 ≤ d.2.2) : g_lapped_Check (heardD d b).2 = some 0 := by
 unfold heardD
 split
 ·exact missD_check ok h0
 ·rename_i h
  have h2 : (stepY d.1 b).2.2 = 0 := Decidable.byContradiction fun x => h (.inr (.inr x))
  exact (step_check ok h2).1
theorem heardD_off {d : Dr} {b : List Int} (hon : d.2.1 = false) (hk : ¬ ((kindF b).2 = 0 ∧ (kindF b).1 = 0)) : (heardD d b).2 = zP ∧ (heardD d b).1.2.1 = false := by
 have hm : heardD d b = missD d := if_pos (by
  by_cases h : (kindF b).2 = 0
  ·exact .inr (.inl ⟨hon, fun x => hk ⟨h, x⟩⟩)
  ·exact .inl h)
 rw [hm]
 unfold missD
 rw [if_pos hon]
 exact ⟨rfl, hon⟩
theorem silent_iter {l : List (List Int)} (hl : l.length ≤ 1000) (hb : ∀ b ∈ l, bytes b ∧ small b) (P : List (List Int)) (hP : P.length = l.length) : ∀ (l2 l1 : List (List Int)) (d : Dr) (on : Bool), l = l1 ++ l2 → P.drop l1.length = playD d l2 → sizedY d.1 → okY d.1 → 0 ≤ d.2.2 → (on = false → d.2.1 = false) →
  iter g_law14_ListenSilent_r2 (l, true, on, P, (l.length : Int), (l1.length : Int), ()) = some (.inl (true, ()))
 | [], l1, d, on, e, _, _, _, _, _ => by
  rw [List.append_nil] at e
  refine iter_inr ?_
  unfold g_law14_ListenSilent_r2
  dsimp only
  rw [dF (by rw [e]; omega)]
 | c :: l2, l1, d, on, e, hd, hs, ok, h0, hon => by
  have hc : l[l1.length]? = some c := by rw [e]; simp
  have hi := lt_of_get hc
  have hbc := hb c (mem_of_get hc)
  have hp : P[l1.length]? = some (heardD d c).2 := by
   have : (P.drop l1.length)[0]? = some (heardD d c).2 := by rw [hd]; rfl
   rw [List.getElem?_drop] at this
   simpa using this
  have ws : IntKind.i64.wrap ((l1.length : Int) + 1) = ((l1.length + 1 : Nat) : Int) := by rw [wrap_i64 (by omega) (by omega)]; rfl
  obtain ⟨v1, v2, v3, _⟩ := heardD_inv (d := d) hs ok h0 hbc.1
  have hchk := heardD_check (d := d) (b := c) ok h0
  have hkd := frame_Kind_eq hbc.1 hbc.2
  have zz : (zP == [0, 0, 0, 0, 0, 0, 0, 0, 0, 0, 0, 0, 0, 0, 0, 0]) = true := rfl
  have hr : ∃ on', g_law14_ListenSilent_r2 (l, true, on, P, (l.length : Int), (l1.length : Int), ()) = some (.inl (l, true, on', P, (l.length : Int), ((l1.length + 1 : Nat) : Int), ())) ∧ (on' = false → (heardD d c).1.2.1 = false) := by
   unfold g_law14_ListenSilent_r2
   dsimp only
   rw [dT (by omega), wT (by omega) (by omega), Int.toNat_natCast, gD hp, hchk, Option.bind_some, nF rfl, wT (by omega) (by omega), gD hc, hkd, Option.bind_some]
   by_cases hk : (kindF c).2 = 0 ∧ (kindF c).1 = 0
   ·refine ⟨true, ?_, fun h => by cases h⟩
    rw [eT hk.1, Option.bind_some]
    dsimp only
    rw [hk.2, ← ws]
    rfl
   ·refine ⟨on, ?_, fun h => (heardD_off (hon h) hk).2⟩
    have hb2 : ∀ k : (List (List Int) × Bool × Bool × List (List Int) × Int × Int × Bool × List Int × Unit) → Option (List (List Int) × Bool × Bool × List (List Int) × Int × Int × List Int × Unit),
      ((bif ((kindF c).2 == 0) then some (l, true, on, P, (l.length : Int), (l1.length : Int), ((kindF c).1 == 0), (heardD d c).2, ()) else some (l, true, on, P, (l.length : Int), (l1.length : Int), false, (heardD d c).2, ()) : Option (List (List Int) × Bool × Bool × List (List Int) × Int × Int × Bool × List Int × Unit))).bind k =
      k (l, true, on, P, (l.length : Int), (l1.length : Int), false, (heardD d c).2, ()) := by
     intro k
     by_cases h2 : (kindF c).2 = 0
     ·rw [eT h2, beq_false_of_ne fun h => hk ⟨h2, h⟩]; rfl
     ·rw [eF h2]; rfl
    rw [hb2]
    dsimp only
    rw [cond_false, Option.bind_some]
    dsimp only
    cases on with
    | true => rw [← ws]; rfl
    | false =>
     rw [(heardD_off (hon rfl) hk).1, zz, ← ws]; rfl
  obtain ⟨on', r1, r2⟩ := hr
  rw [iter_inl r1]
  have := silent_iter hl hb P hP l2 (l1 ++ [c]) (heardD d c).1 on' (by rw [e]; simp) (by
   rw [List.length_append, List.length_singleton, ← List.drop_drop, hd]; rfl) v1 v2 v3 r2
  rw [List.length_append, List.length_singleton] at this
  exact this
theorem silent_len {l : List (List Int)} (hl : l.length ≤ 1000) : ∃ r, iter g_law14_ListenSilent_r1 (l, true, l, (l.length : Int), 0, ()) = some r ∧ (r = .inr (true, ()) ∨ r = .inl (l, true, ())) := by
 have key : ∀ (l2 l1 : List (List Int)), l = l1 ++ l2 → ∃ r, iter g_law14_ListenSilent_r1 (l, true, l, (l.length : Int), (l1.length : Int), ()) = some r ∧ (r = .inr (true, ()) ∨ r = .inl (l, true, ())) := by
  intro l2
  induction l2 with
  | nil =>
   intro l1 h
   refine ⟨_, iter_inr ?_, .inr rfl⟩
   rw [List.append_nil] at h
   unfold g_law14_ListenSilent_r1
   dsimp only
   rw [dF (by rw [h]; omega)]
  | cons p l2 ih =>
   intro l1 h
   have hg : l[l1.length]? = some p := by rw [h]; simp
   have hi := lt_of_get hg
   have ws : IntKind.i64.wrap ((l1.length : Int) + 1) = ((l1.length + 1 : Nat) : Int) := by rw [wrap_i64 (by omega) (by omega)]; rfl
   by_cases hp : (p.length : Int) > 300
   ·refine ⟨_, iter_inr ?_, .inl rfl⟩
    unfold g_law14_ListenSilent_r1
    dsimp only
    rw [dT (by omega), wT (by omega) (by omega), Int.toNat_natCast, gD hg, dT hp]
   ·obtain ⟨r, k1, k2⟩ := ih (l1 ++ [p]) (by rw [h]; simp)
    rw [List.length_append, List.length_singleton] at k1
    refine ⟨r, (iter_inl ?_).trans k1, k2⟩
    unfold g_law14_ListenSilent_r1
    dsimp only
    rw [dT (by omega), wT (by omega) (by omega), Int.toNat_natCast, gD hg, dF hp, ws]
 exact key _ [] rfl
theorem ListenSilent_true {l : List (List Int)} (hb : ∀ b ∈ l, bytes b ∧ small b) : g_law14_ListenSilent l = some true := by
 unfold g_law14_ListenSilent
 rw [live14_eq, Option.bind_some]
 simp only [Bool.not_true, cond_false]
 by_cases hl : (l.length : Int) > 30
 ·rw [dT hl]
 rw [dF hl]
 obtain ⟨r, k1, k2⟩ := silent_len (l := l) (by omega)
 rw [k1, Option.bind_some]
 rcases k2 with rfl | rfl
 ·rfl
 ·dsimp only
  have hpl : (playD dY l).length = l.length := playD_len l dY
  rw [Plain_eq (by omega) hb, Option.bind_some, hpl]
  rw [show iter g_law14_ListenSilent_r2 (l, true, false, playD dY l, (l.length : Int), 0, ()) = _ from
   silent_iter (by omega) hb _ hpl l [] dY false rfl rfl sY_sized sY_ok (Int.le_refl _) (fun _ => rfl), Option.bind_some]
end Go.Sq
namespace Go.Sq
open Go.Rx
theorem pure_LSilent (x : denL [(false, .sl (.sl (.int .u8)))]) (h : wfL _ x) : g_law14_ListenSilent x = some true :=
 ListenSilent_true fun b hb => (wf_bytes ((show wf (.sl (.sl (.int .u8))) x from h).2 b hb)).symm
end Go.Sq
