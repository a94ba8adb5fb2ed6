/- Parts of a proof: evaluation of Go code over typed values, and what it computes. -/
import Derived.Test.YtefeeifdndoggaaDoorL6
import Derived.Test.YtefeeifdndoggaaDoorF
import Derived.Laws.RangeString
import Derived.Laws.RangeAny
import Derived.Test.YtefeeifdndoggaaDoorL5
import Derived.KernelRfl
import Derived.Test.YtefeeifdndoggaaDoorX4
set_option linter.unusedSimpArgs false
set_option linter.unusedVariables false
set_option linter.unusedSectionVars false
namespace Go.Sq
open Go.Rx
theorem strEq_refl (s : ByteArray) : strEq s s = true := beq_self_eq_true _
end Go.Sq
namespace Go.Sq
open Go.Rx
end Go.Sq
namespace Go.Sq
open Go.Rx
abbrev Dc := Int × Int × Int × Int
abbrev Jd := Int × Int × Bool
def fineT (j : Jd) (d : Dc) : Bool × Jd :=
 bif (d.1 == 5) && ((d.2.1 == d.2.1) && ((d.2.2.1 == d.2.2.1) && ((d.2.2.2 == 0) && true))) then
  bif decide (d.2.1 ≤ 0) then (false, j) else
  bif d.2.2.1 == IntKind.i64.wrap (j.1 + 1) then (true, (d.2.2.1, (d.2.1, false))) else
  bif d.2.2.1 == j.1 then (bif d.2.1 == j.2.1 then (!j.2.2, j) else (false, j)) else (false, j)
 else bif (d.1 == 8) && ((d.2.1 == j.2.1) && ((d.2.2.1 == j.1) && ((d.2.2.2 == 0) && true))) then
  (decide (j.2.1 > 0), (j.1, (j.2.1, bif j.2.2 then true else decide (j.2.1 > 0))))
 else bif (d.1 == 10) && ((d.2.1 == 0) && ((d.2.2.1 == j.1) && ((d.2.2.2 == 0) && true))) then
  (decide (j.2.1 > 0), (j.1, (0, false)))
 else bif (d.1 == 7) && ((d.2.1 == d.2.1) && ((d.2.2.1 == 0) && ((d.2.2.2 == d.2.2.2) && true))) then
  (bif decide (j.2.1 > 0) then bif decide (d.2.1 > 0) then bif d.2.1 != j.2.1 then bif decide (d.2.2.2 ≥ 1) then decide (d.2.2.2 ≤ 4) else false else false else false else false, j)
 else bif (bif (d.1 == 6) && ((d.2.1 == d.2.1) && ((d.2.2.1 == 0) && ((d.2.2.2 == 0) && true))) then true else (d.1 == 15) && ((d.2.1 == d.2.1) && ((d.2.2.1 == j.1) && ((d.2.2.2 == 0) && true)))) then
  (decide (d.2.1 > 0), j)
 else (false, j)
theorem judge_round {l : List Dc} {j : Jd} {i : Nat} {d : Dc} (hi : l[i]? = some d) (hl : l.length ≤ 1000000) :
  g_trace_Judge_r1 (l, l, (l.length : Int), (i : Int), j, ()) = some (bif (fineT j d).1 then .inl (l, l, (l.length : Int), ((i + 1 : Nat) : Int), (fineT j d).2, ()) else .inr (.inr ((i : Int), false, ()))) := by
 have hi2 := lt_of_get hi
 have ws : IntKind.i64.wrap ((i : Int) + 1) = ((i + 1 : Nat) : Int) := by rw [wrap_i64 (by omega) (by omega)]; rfl
 unfold g_trace_Judge_r1
 dsimp only
 rw [dT (by omega), wT (by omega) (by omega), Int.toNat_natCast, gD hi, ← ws]
 obtain ⟨e, h, r⟩ := j
 unfold fineT
 dsimp only
 generalize ((d.1 == 5) && ((d.2.1 == d.2.1) && ((d.2.2.1 == d.2.2.1) && ((d.2.2.2 == 0) && true)))) = b5
 generalize ((d.1 == 8) && ((d.2.1 == h) && ((d.2.2.1 == e) && ((d.2.2.2 == 0) && true)))) = b8
 generalize ((d.1 == 10) && ((d.2.1 == 0) && ((d.2.2.1 == e) && ((d.2.2.2 == 0) && true)))) = b10
 generalize ((d.1 == 7) && ((d.2.1 == d.2.1) && ((d.2.2.1 == 0) && ((d.2.2.2 == d.2.2.2) && true)))) = b7
 generalize ((d.1 == 6) && ((d.2.1 == d.2.1) && ((d.2.2.1 == 0) && ((d.2.2.2 == 0) && true)))) = b6
 generalize ((d.1 == 15) && ((d.2.1 == d.2.1) && ((d.2.2.1 == e) && ((d.2.2.2 == 0) && true)))) = b15
 generalize (d.2.2.1 == IntKind.i64.wrap (e + 1)) = c1
 generalize (d.2.2.1 == e) = c2
 generalize (d.2.1 == h) = c3
 generalize decide (d.2.1 ≤ 0) = c4
 generalize decide (h > 0) = c5
 generalize (d.2.1 != h) = c7
 generalize decide (d.2.2.2 ≥ 1) = c8
 generalize decide (d.2.2.2 ≤ 4) = c9
 cases b5
 ·cases b8
  ·cases b10
   ·cases b7
    ·have hk : (bif !decide (d.2.1 > 0) then some (Sum.inr (Sum.inr ((i : Int), false, ()))) else some (Sum.inl (l, l, (l.length : Int), IntKind.i64.wrap ((i : Int) + 1), (e, h, r), ())) : Option ((List Dc × List Dc × Int × Int × Jd × Unit) ⊕ ((List Dc × Unit) ⊕ (Int × Bool × Unit)))) =
       some (bif decide (d.2.1 > 0) then Sum.inl (l, l, (l.length : Int), IntKind.i64.wrap ((i : Int) + 1), (e, h, r), ()) else Sum.inr (Sum.inr ((i : Int), false, ()))) := by cases decide (d.2.1 > 0) <;> rfl
     cases b6
     ·cases b15
      ·rfl
      ·refine Eq.trans hk ?_
       cases decide (d.2.1 > 0) <;> rfl
     ·refine Eq.trans hk ?_
      cases decide (d.2.1 > 0) <;> rfl
    ·cases c5 <;> cases decide (d.2.1 > 0) <;> cases c7 <;> cases c8 <;> cases c9 <;> rfl
   ·cases c5 <;> rfl
  ·cases r <;> cases c5 <;> rfl
 ·cases c4 <;> cases c1 <;> cases c2 <;> cases c3 <;> cases r <;> rfl
def goodN : Jd → List Dc → Nat
 | _, [] => 0
 | j, d :: l => bif (fineT j d).1 then goodN (fineT j d).2 l + 1 else 0
theorem judge_iter {l : List Dc} (hl : l.length ≤ 1000000) : ∀ (l2 l1 : List Dc) (j : Jd), l = l1 ++ l2 →
  iter g_trace_Judge_r1 (l, l, (l.length : Int), (l1.length : Int), j, ()) = some (bif goodN j l2 == l2.length then .inl (l, ()) else .inr (((l1.length + goodN j l2 : Nat) : Int), false, ()))
 | [], l1, j, e => by
  refine iter_inr ?_
  rw [List.append_nil] at e
  unfold g_trace_Judge_r1
  dsimp only
  rw [dF (by rw [e]; omega)]
  rfl
 | d :: l2, l1, j, e => by
  have hr := judge_round (l := l) (j := j) (i := l1.length) (d := d) (by rw [e]; simp) hl
  unfold goodN
  cases hf : (fineT j d).1 with
  | true =>
   rw [hf, cond_true] at hr
   rw [iter_inl hr, cond_true]
   have := judge_iter hl l2 (l1 ++ [d]) (fineT j d).2 (by rw [e]; simp)
   rw [List.length_append, List.length_singleton] at this
   rw [this, List.length_cons]
   have e1 : (goodN (fineT j d).2 l2 + 1 == l2.length + 1) = (goodN (fineT j d).2 l2 == l2.length) := by simp
   rw [e1]
   have e2 : l1.length + 1 + goodN (fineT j d).2 l2 = l1.length + (goodN (fineT j d).2 l2 + 1) := by omega
   rw [e2]
  | false =>
   rw [hf, cond_false] at hr
   rw [iter_inr hr, cond_false, List.length_cons]
   have e1 : (0 == l2.length + 1) = false := by simp
   rw [e1]; rfl
def j0 : Jd := (0, 0, false)
theorem Judge_eq {l : List Dc} (hl : l.length ≤ 1000000) : g_trace_Judge l = some ((goodN j0 l : Int), goodN j0 l == l.length) := by
 unfold g_trace_Judge
 rw [show iter g_trace_Judge_r1 (l, l, (l.length : Int), 0, (0, (0, false)), ()) = _ from judge_iter hl l [] j0 rfl, Option.bind_some]
 cases h : goodN j0 l == l.length
 ·simp
 ·simp only [cond_true]
  rw [beq_iff_eq.1 h]
def segs : Jd → List Dc → List Dc → List (List Dc)
 | _, part, [] => [part]
 | j, part, d :: l => bif (fineT j d).1 then (bif decide ((fineT j d).2.1 > j.1) then part :: segs (fineT j d).2 [d] l else segs (fineT j d).2 (part ++ [d]) l) else [part]
def heads : Jd → List Dc → List Int
 | _, [] => []
 | j, d :: l => bif (fineT j d).1 then (bif decide ((fineT j d).2.1 > j.1) then d.2.1 :: heads (fineT j d).2 l else heads (fineT j d).2 l) else []
def afterJ : Jd → List Dc → Jd
 | j, [] => j
 | j, d :: l => afterJ (fineT j d).2 l
theorem parts_round {l part : List Dc} {out : List (List Dc)} {j : Jd} {i : Nat} {d : Dc} (hi : l[i]? = some d) (hl : l.length ≤ 1000000) (hp : part.length ≤ i) (ho : out.length ≤ i) :
  g_trace_Parts_r1 (part, out, l, (l.length : Int), (i : Int), j, ()) = some (bif (fineT j d).1 then
   .inl (bif decide ((fineT j d).2.1 > j.1) then ([d], out ++ [part], l, (l.length : Int), ((i + 1 : Nat) : Int), (fineT j d).2, ()) else (part ++ [d], out, l, (l.length : Int), ((i + 1 : Nat) : Int), (fineT j d).2, ())) else .inr (part, out, ())) := by
 have hi2 := lt_of_get hi
 have ws : IntKind.i64.wrap ((i : Int) + 1) = ((i + 1 : Nat) : Int) := by rw [wrap_i64 (by omega) (by omega)]; rfl
 have r1 : room 24 (out ++ [part]).length = true := room_iff.2 (by rw [List.length_append, List.length_singleton]; omega)
 have r2 : room 32 (part ++ [d]).length = true := room_iff.2 (by rw [List.length_append, List.length_singleton]; omega)
 have r3 : room 32 ([] ++ [d]).length = true := rfl
 unfold g_trace_Parts_r1
 dsimp only
 rw [dT (by omega), wT (by omega) (by omega), Int.toNat_natCast, gD hi]
 obtain ⟨e, h, r⟩ := j
 unfold fineT
 dsimp only
 have key : ∀ (o : Option (List Dc × List (List Dc) × Int × List Dc × Int × Int × Bool × Jd × Dc × Unit)) (f : Bool × Jd),
   o = some (part, out, e, l, (l.length : Int), (i : Int), !f.1, f.2, d, ()) →
   (o.bind fun j7 => bif j7.2.2.2.2.2.2.1 then some (Sum.inr (j7.1, j7.2.1, ())) else
    ((bif (decide (j7.2.2.2.2.2.2.2.1.1 > j7.2.2.1)) then bif (room 24 (j7.2.1 ++ [j7.1]).length) then
      some ([], (j7.2.1 ++ [j7.1]), j7.2.2.2.1, j7.2.2.2.2.1, j7.2.2.2.2.2.1, j7.2.2.2.2.2.2.2.1, j7.2.2.2.2.2.2.2.2.1, ()) else none
     else some (j7.1, j7.2.1, j7.2.2.2.1, j7.2.2.2.2.1, j7.2.2.2.2.2.1, j7.2.2.2.2.2.2.2.1, j7.2.2.2.2.2.2.2.2.1, ()) : Option ((List Dc) × (List (List Dc)) × (List Dc) × Int × Int × Jd × Dc × Unit)).bind fun j8 =>
    bif (room 32 (j8.1 ++ [j8.2.2.2.2.2.2.1]).length) then
     some (Sum.inl ((j8.1 ++ [j8.2.2.2.2.2.2.1]), j8.2.1, j8.2.2.1, j8.2.2.2.1, (IntKind.i64.wrap (j8.2.2.2.2.1 + 1)), j8.2.2.2.2.2.1, ())) else none)
    : Option ((List Dc × List (List Dc) × List Dc × Int × Int × Jd × Unit) ⊕ (List Dc × List (List Dc) × Unit))) =
   some (bif f.1 then .inl (bif decide (f.2.1 > e) then ([d], out ++ [part], l, (l.length : Int), ((i + 1 : Nat) : Int), f.2, ()) else (part ++ [d], out, l, (l.length : Int), ((i + 1 : Nat) : Int), f.2, ())) else .inr (part, out, ())) := by
  intro o f ho
  obtain ⟨f1, f2⟩ := f
  subst ho
  rw [Option.bind_some]
  dsimp only
  rw [← ws]
  cases f1
  ·rfl
  ·cases hu : decide (f2.1 > e)
   ·simp only [Bool.not_true, cond_false, cond_true, Option.bind_some, r2]
   ·simp only [Bool.not_true, cond_false, cond_true, Option.bind_some, r1, r3]
    rfl
 refine key _ (fineT (e, h, r) d) ?_
 clear key
 unfold fineT
 dsimp only
 generalize ((d.1 == 5) && ((d.2.1 == d.2.1) && ((d.2.2.1 == d.2.2.1) && ((d.2.2.2 == 0) && true)))) = b5
 generalize ((d.1 == 8) && ((d.2.1 == h) && ((d.2.2.1 == e) && ((d.2.2.2 == 0) && true)))) = b8
 generalize ((d.1 == 10) && ((d.2.1 == 0) && ((d.2.2.1 == e) && ((d.2.2.2 == 0) && true)))) = b10
 generalize ((d.1 == 7) && ((d.2.1 == d.2.1) && ((d.2.2.1 == 0) && ((d.2.2.2 == d.2.2.2) && true)))) = b7
 generalize ((d.1 == 6) && ((d.2.1 == d.2.1) && ((d.2.2.1 == 0) && ((d.2.2.2 == 0) && true)))) = b6
 generalize ((d.1 == 15) && ((d.2.1 == d.2.1) && ((d.2.2.1 == e) && ((d.2.2.2 == 0) && true)))) = b15
 generalize (d.2.2.1 == IntKind.i64.wrap (e + 1)) = c1
 generalize (d.2.2.1 == e) = c2
 generalize (d.2.1 == h) = c3
 generalize decide (d.2.1 ≤ 0) = c4
 generalize decide (h > 0) = c5
 generalize (d.2.1 != h) = c7
 generalize decide (d.2.2.2 ≥ 1) = c8
 generalize decide (d.2.2.2 ≤ 4) = c9
 cases b5
 ·cases b8
  ·cases b10
   ·cases b7
    ·cases b6
     ·cases b15 <;> rfl
     ·rfl
    ·cases c5 <;> cases decide (d.2.1 > 0) <;> cases c7 <;> cases c8 <;> cases c9 <;> rfl
   ·cases c5 <;> rfl
  ·cases r <;> cases c5 <;> rfl
 ·cases c4 <;> cases c1 <;> cases c2 <;> cases c3 <;> cases r <;> rfl
theorem segs_ne : ∀ (l part : List Dc) (j : Jd), ∃ p r, segs j part l = p :: r
 | [], part, _ => ⟨part, [], rfl⟩
 | d :: l, part, j => by
  unfold segs
  cases (fineT j d).1 with
  | false => exact ⟨part, [], rfl⟩
  | true =>
   cases decide ((fineT j d).2.1 > j.1) with
   | true => exact ⟨part, _, rfl⟩
   | false => exact segs_ne l _ _
theorem parts_iter {l : List Dc} (hl : l.length ≤ 1000000) : ∀ (l2 l1 part : List Dc) (out : List (List Dc)) (j : Jd), l = l1 ++ l2 → part.length ≤ l1.length → out.length ≤ l1.length →
  ∃ p o, iter g_trace_Parts_r1 (part, out, l, (l.length : Int), (l1.length : Int), j, ()) = some (p, o, ()) ∧ o ++ [p] = out ++ segs j part l2 ∧ o.length ≤ l.length
 | [], l1, part, out, j, e, hp, ho => by
  refine ⟨part, out, iter_inr ?_, rfl, by rw [e, List.append_nil]; exact ho⟩
  rw [List.append_nil] at e
  unfold g_trace_Parts_r1
  dsimp only
  rw [dF (by rw [e]; omega)]
 | d :: l2, l1, part, out, j, e, hp, ho => by
  have hr := parts_round (l := l) (part := part) (out := out) (j := j) (i := l1.length) (d := d) (by rw [e]; simp) hl hp ho
  unfold segs
  cases hf : (fineT j d).1 with
  | true =>
   rw [hf, cond_true] at hr
   rw [iter_inl hr, cond_true]
   cases hu : decide ((fineT j d).2.1 > j.1) with
   | true =>
    rw [cond_true, cond_true]
    have := parts_iter hl l2 (l1 ++ [d]) [d] (out ++ [part]) (fineT j d).2 (by rw [e]; simp) (by simp) (by simp; omega)
    rw [List.length_append, List.length_singleton] at this
    obtain ⟨p, o, h1, h2, h3⟩ := this
    exact ⟨p, o, h1, by rw [h2]; simp, h3⟩
   | false =>
    rw [cond_false, cond_false]
    have := parts_iter hl l2 (l1 ++ [d]) (part ++ [d]) out (fineT j d).2 (by rw [e]; simp) (by simp; omega) (by simp; omega)
    rw [List.length_append, List.length_singleton] at this
    exact this
  | false =>
   rw [hf, cond_false] at hr
   exact ⟨part, out, iter_inr hr, rfl, by rw [e, List.length_append]; omega⟩
theorem Parts_eq {l : List Dc} (hl : l.length ≤ 1000000) : g_trace_Parts l = some (segs j0 [] l) := by
 obtain ⟨p, o, h1, h2, h3⟩ := parts_iter hl l [] [] [] j0 rfl (Nat.le_refl _) (Nat.le_refl _)
 rw [List.nil_append] at h2
 unfold g_trace_Parts
 rw [show iter g_trace_Parts_r1 ([], [], l, (l.length : Int), 0, (0, (0, false)), ()) = _ from h1, Option.bind_some]
 dsimp only
 rw [h2, room_iff.2 (by rw [← h2, List.length_append, List.length_singleton]; omega), cond_true]
def hd (p : List Dc) : Int := (p.getD 0 (0, (0, (0, 0)))).2.1
theorem segs_heads : ∀ (l part : List Dc) (j : Jd), (segs j part l).tail.map hd = heads j l ∧ (∀ p ∈ (segs j part l).tail, p ≠ []) ∧ (part ≠ [] → ∃ p r, segs j part l = p :: r ∧ p ≠ [] ∧ hd p = hd part)
 | [], part, _ => ⟨rfl, fun p h => (nomatch h), fun h => ⟨part, [], rfl, h, rfl⟩⟩
 | d :: l, part, j => by
  unfold segs heads
  cases (fineT j d).1 with
  | false => exact ⟨rfl, fun p h => (nomatch h), fun h => ⟨part, [], rfl, h, rfl⟩⟩
  | true =>
   cases decide ((fineT j d).2.1 > j.1) with
   | true =>
    obtain ⟨h1, h2, h3⟩ := segs_heads l [d] (fineT j d).2
    obtain ⟨p, r, h4, h5, h6⟩ := h3 (by simp)
    simp only [cond_true]
    rw [h4] at h1 h2 ⊢
    refine ⟨?_, ?_, fun h => ⟨part, _, rfl, h, rfl⟩⟩
    ·rw [List.tail_cons, List.map_cons, h6]
     rw [List.tail_cons] at h1
     rw [h1]; rfl
    ·intro q hq
     rw [List.tail_cons] at hq
     rcases List.mem_cons.1 hq with rfl | hq
     ·exact h5
     ·exact h2 q hq
   | false =>
    obtain ⟨h1, h2, h3⟩ := segs_heads l (part ++ [d]) (fineT j d).2
    simp only [cond_true, cond_false]
    refine ⟨h1, h2, fun h => ?_⟩
    obtain ⟨p, r, h4, h5, h6⟩ := h3 (by simp)
    refine ⟨p, r, h4, h5, h6.trans ?_⟩
    cases part with
    | nil => exact absurd rfl h
    | cons x y => rfl
theorem segs_len (l part : List Dc) (j : Jd) : (segs j part l).length = (heads j l).length + 1 := by
 obtain ⟨p, r, e⟩ := segs_ne l part j
 have := (segs_heads l part j).1
 rw [e, List.tail_cons] at this
 rw [e, List.length_cons, ← this, List.length_map]
theorem heads_le : ∀ (l : List Dc) (j : Jd), (heads j l).length ≤ l.length
 | [], _ => Nat.le_refl _
 | d :: l, j => by
  unfold heads
  have := heads_le l (fineT j d).2
  cases (fineT j d).1 <;> cases decide ((fineT j d).2.1 > j.1) <;> simp <;> omega
theorem Holders_eq {l : List Dc} (hl : l.length ≤ 1000000) : g_trace_Holders l = some (heads j0 l) := by
 obtain ⟨p, r, e⟩ := segs_ne l [] j0
 obtain ⟨h1, h2, _⟩ := segs_heads l [] j0
 have hlen := segs_len l [] j0
 have hle := heads_le l j0
 rw [e, List.tail_cons] at h1 h2
 rw [e, List.length_cons] at hlen
 unfold g_trace_Holders
 rw [Parts_eq hl, Option.bind_some, e, gT (by omega) (by rw [List.length_cons]; omega) (by omega)]
 have ed : ((p :: r).take ((p :: r).length : Int).toNat).drop 1 = r := by rw [Int.toNat_natCast, List.take_length]; rfl
 rw [ed]
 have := iter_scan (f := g_trace_Holders_r1) r (fun i (_ : Unit) => ((r.take i).map hd, r, (r.length : Int), (i : Int), ())) (fun (_ : Unit) a => (Sum.inl () : Unit ⊕ Unit)) (fun _ => ([], ())) (fun _ => (r.map hd, ()))
  (fun i a x hi => by
   have hi2 := lt_of_get hi
   have ws : IntKind.i64.wrap ((i : Int) + 1) = ((i + 1 : Nat) : Int) := by rw [wrap_i64 (by omega) (by omega)]; rfl
   have ha := h2 a (mem_of_get hi)
   have hal : 0 < a.length := List.length_pos_iff.2 ha
   unfold g_trace_Holders_r1
   dsimp only
   rw [dT (by omega), wT (by omega) (by omega), Int.toNat_natCast, gD hi, wT (by omega) (by omega), rT (by simp; omega), ws, List.take_add_one, hi, Option.toList_some, List.map_append]
   rfl)
  (fun s => by
   unfold g_trace_Holders_r1
   dsimp only
   rw [dF (by omega), List.take_length]) ()
 have hs : ∀ l : List (List Dc), scanL (fun (_ : Unit) (_ : List Dc) => (Sum.inl () : Unit ⊕ Unit)) () l = .inl () := by
  intro l
  induction l with
  | nil => rfl
  | cons a l ih => exact ih
 rw [hs] at this
 rw [show (([] : List Int), r, (r.length : Int), (0 : Int), ()) = (((r.take 0).map hd), r, (r.length : Int), ((0 : Nat) : Int), ()) from rfl, this, Option.bind_some, h1]
end Go.Sq
namespace Go.Sq
open Go.Rx
theorem itoa7 : strEq (itoaT (-7)) (ByteArray.mk #[45, 55]) = true := by
 have : itoaT (-7) = ByteArray.mk #[45, 55] := by
  unfold itoaT Lib.itoa
  rw [if_pos (by decide), show (-7 : Int).natAbs = 7 from rfl, Lib.decDigits, dif_pos (by decide)]
  rfl
 rw [this]; exact strEq_refl _
theorem pointsT {s : ByteArray} (h : s.size ≤ 35184372088832) : g_trace_points s = some (ptsT s) := by
 unfold g_trace_points
 rw [decide_eq_true h]; rfl
theorem itoaE {n : Int} (h1 : -9223372036854775808 ≤ n) (h2 : n ≤ 9223372036854775807) : g_strconv_Itoa n = some (itoaT n) := by
 unfold g_strconv_Itoa
 rw [decide_eq_true h1, decide_eq_true h2]; rfl
theorem live23 : g_law23_live = some true := by
 have h3 : strEq (ptsT (ByteArray.mk #[97, 66])) (ByteArray.mk #[97, 46]) = true := by kernel_rfl
 have e1 : g_trace_Judge [(5, (1, (2, 0)))] = some (0, false) := by rw [Judge_eq (by decide)]; rfl
 have e2 : g_trace_Judge [(5, (1, (1, 0))), (10, (0, (1, 0)))] = some (2, true) := by rw [Judge_eq (by decide)]; rfl
 unfold g_law23_live
 rw [e1, e2, Option.bind_some, Option.bind_some, pointsT (by decide), Option.bind_some, h3, itoaE (by decide) (by decide), Option.bind_some, itoa7, strEq_refl]
 rfl
theorem goodN_cons (j : Jd) (d : Dc) (l : List Dc) : goodN j (d :: l) = bif (fineT j d).1 then goodN (fineT j d).2 l + 1 else 0 := rfl
theorem heads_cons (j : Jd) (d : Dc) (l : List Dc) : heads j (d :: l) = bif (fineT j d).1 then (bif decide ((fineT j d).2.1 > j.1) then d.2.1 :: heads (fineT j d).2 l else heads (fineT j d).2 l) else [] := rfl
theorem afterJ_cons (j : Jd) (d : Dc) (l : List Dc) : afterJ j (d :: l) = afterJ (fineT j d).2 l := rfl
theorem good_app : ∀ (l m : List Dc) (j : Jd), goodN j l = l.length → goodN j (l ++ m) = l.length + goodN (afterJ j l) m ∧ heads j (l ++ m) = heads j l ++ heads (afterJ j l) m
 | [], m, j, _ => by simp [afterJ, heads]
 | d :: l, m, j, h => by
  rw [goodN_cons] at h
  rw [List.cons_append, goodN_cons, heads_cons, heads_cons, afterJ_cons]
  cases hf : (fineT j d).1 with
  | false => rw [hf, cond_false] at h; simp at h
  | true =>
   rw [hf, cond_true, List.length_cons] at h
   obtain ⟨h1, h2⟩ := good_app l m (fineT j d).2 (by omega)
   rw [cond_true, cond_true, cond_true, h1, h2]
   refine ⟨by rw [List.length_cons]; omega, ?_⟩
   cases decide ((fineT j d).2.1 > j.1) <;> rfl
end Go.Sq
namespace Go.Sq
open Go.Rx
end Go.Sq
