/- Parts of a proof: evaluation of Go code over typed values, and what it computes. -/
import Derived.Test.YtdjhfpaeejpebaaX2
import Derived.Orders
import Derived.Test.YtdjhfpaeejpebaaX1
import Derived.ChangeSame
import Derived.Carry
import Derived.OpenShut
set_option linter.unusedSimpArgs false
set_option linter.unusedVariables false
set_option linter.unusedSectionVars false
/- Drawn regions: what their run in one order tells. -/
namespace Go.Rx

theorem setA_self : ∀ (l : List AV) (d : Nat), setA l d (getA l d) = l
  | [], d => by cases d <;> rfl
  | a :: l, 0 => rfl
  | a :: l, d + 1 => by simp only [setA, getA]; rw [setA_self l d]
theorem put_self {S : St} {d : Nat} {v : AV} (h : getA S.tmps d = v) : S.put (some d) v = S := by
  subst h
  simp only [St.put, setA_self]
theorem nthO_eq : ∀ (l : List Oper) (i : Nat), nthO l i = l[i]?
  | [], i => by cases i <;> rfl
  | o :: l, 0 => rfl
  | o :: l, i + 1 => by simp only [nthO, List.getElem?_cons_succ]; exact nthO_eq l i

section
variable {T : Tab} {H : Handler}

theorem opV_nat (hN : ∀ {R : Type} (f : FuncId) (args : List AV) (S : St) (K : AV → St → Option R), H.run f args S K = (H.run f args S fun v S' => some (v, S')).bind fun p => K p.1 p.2) {R : Type} (op : Op) (S : St) (K : AV → Objs → Nat → Option R) :
    opV T H op S K = (opV T H op S fun v o n => some (v, o, n)).bind fun p => K p.1 p.2.1 p.2.2 := by
  unfold opV
  split
  · rename_i f args hc
    rw [hN f args, hN f args (K := fun v S' => some (v, S'.objs, S'.next))]
    rw [Option.bind_assoc]
    rfl
  · split
    · rfl
    · rename_i b v _
      cases b <;> rfl
    · split
      · rfl
      · rename_i b v objs _
        cases b <;> rfl
      · rfl

def wantedA (ops : List Oper) (S : St) (o : Oper) : Option Bool :=
  match o.guard with
  | none => some true
  | some (g, want) => match dstOf ops g with
    | none => none
    | some d => match getA S.tmps d with
      | .bool b => some (b == want)
      | .tup _ => some false
      | _ => none

variable (T H)
inductive Out (ops : List Oper) (o : Oper) (S : St) : AV → Objs → Nat → Prop
  | skip : wantedA ops S o = some false → Out ops o S (.tup []) S.objs S.next
  | pure {v : AV} : wantedA ops S o = some true → chainy o.op = false → (pureOp T (viewR S o) o.op).gives v → Out ops o S v S.objs S.next
  | chain {v : AV} {objs : Objs} {n : Nat} : wantedA ops S o = some true → chainy o.op = true → (opV T H o.op (viewC S o) fun v o n => some (v, o, n)) = some (v, objs, n) → Out ops o S v objs n

structure Tra (ops : List Oper) (an : List Nat) (log : List Ent) (prev : Nat) (pi : List Nat) (st : Nat → St) (val : Nat → AV) (op : Nat → Oper) (ent : Nat → Ent) : Prop where
  opj : ∀ p, p < pi.length → nthO ops (pi.getD p 0) = some (op p)
  entj : ∀ p, p < pi.length → ∃ pv, ent p = entOf H an pv (pi.getD p 0) (op p) (st p) ∧ (∀ i, Nat.testBit prev i = true → Nat.testBit pv i = true) ∧ ∀ p', p' < p → chainy (op p').op = true → Nat.testBit pv (pi.getD p' 0) = true
  out : ∀ p, p < pi.length → Out T H ops (op p) (st p) (val p) (st (p + 1)).objs (st (p + 1)).next
  next : ∀ p, p < pi.length → (st (p + 1)).tmps = ((st p).put (op p).dst (val p)).tmps
  old : ∀ p, p < pi.length → ∀ e ∈ log, pairOK e (ent p) = true
  new : ∀ p, p < pi.length → ∀ p', p' < p → pairOK (ent p') (ent p) = true
  src : ∀ p, p < pi.length → ∀ t, t ∈ opTmps (op p).op ∨ t ∈ guardTmp ops (op p) → ∀ i, idxOf t 0 ops = some i →
    (Nat.testBit (nthN an (pi.getD p 0)) i = true ∧ ((∃ e ∈ log, e.j = i) ∨ ∃ p', p' < p ∧ pi.getD p' 0 = i)) ∨
    ((i = pi.getD p 0 ∨ Nat.testBit (nthN an i) (pi.getD p 0) = true) ∧ (∀ e ∈ log, e.j ≠ i) ∧ ∀ p', p' < p → pi.getD p' 0 ≠ i)

variable {T H}
theorem pairsOK_all {f : Ent} : ∀ {l : List Ent}, pairsOK f l = true → ∀ e ∈ l, pairOK e f = true
  | e :: l, h, e', he => by
    simp only [pairsOK, Bool.and_eq_true] at h
    rcases List.mem_cons.1 he with rfl | he
    · exact h.1
    · exact pairsOK_all h.2 e' he
theorem inLog_mem {i : Nat} : ∀ {l : List Ent}, inLog i l = true → ∃ e ∈ l, e.j = i
  | e :: l, h => by
    simp only [inLog, Bool.or_eq_true] at h
    rcases h with h | h
    · exact ⟨e, List.mem_cons_self, Nat.eq_of_beq_eq_true h⟩
    · obtain ⟨e', h1, h2⟩ := inLog_mem h
      exact ⟨e', List.mem_cons_of_mem _ h1, h2⟩
theorem inLog_not {i : Nat} : ∀ {l : List Ent}, inLog i l = false → ∀ e ∈ l, e.j ≠ i
  | e :: l, h, e', he => by
    simp only [inLog, Bool.or_eq_false_iff] at h
    rcases List.mem_cons.1 he with rfl | he
    · exact fun hx => by rw [hx, Nat.beq_refl] at h; cases h.1
    · exact inLog_not h.2 e' he
theorem tmpsOK_all {ops : List Oper} {an : List Nat} {j anc : Nat} {log : List Ent} : ∀ {l : List Nat}, tmpsOK ops an j anc log l = true → ∀ t ∈ l, ∀ i, idxOf t 0 ops = some i →
    (Nat.testBit anc i = true ∧ ∃ e ∈ log, e.j = i) ∨ ((i = j ∨ Nat.testBit (nthN an i) j = true) ∧ ∀ e ∈ log, e.j ≠ i)
  | t :: l, h, t', ht, i, hi => by
    simp only [tmpsOK, Bool.and_eq_true] at h
    rcases List.mem_cons.1 ht with rfl | ht
    · have h1 := h.1
      simp only [tmpOK, hi] at h1
      cases hl : inLog i log with
      | true => rw [hl] at h1; exact .inl ⟨h1, inLog_mem hl⟩
      | false =>
        rw [hl] at h1
        simp only [cond_false, Bool.or_eq_true] at h1
        exact .inr ⟨h1.imp Nat.eq_of_beq_eq_true (fun h => h), inLog_not hl⟩
    · exact tmpsOK_all h.2 t' ht i hi

/-- one more ahead -/
theorem Tra.cons {ops : List Oper} {an : List Nat} {log : List Ent} {prev j : Nat} {rest : List Nat} {S : St} {o : Oper} {v : AV} {objs : Objs} {n : Nat}
    (hj : nthO ops j = some o) (hok : opOK ops an o (entOf H an prev j o S) log = true) (hout : Out T H ops o S v objs n)
    {st : Nat → St} {val : Nat → AV} {op : Nat → Oper} {ent : Nat → Ent}
    (h : Tra T H ops an (entOf H an prev j o S :: log) (bif chainy o.op then prev ||| 2 ^ j else prev) rest st val op ent) (h0 : st 0 = S.step o.dst v objs n) :
    Tra T H ops an log prev (j :: rest) (fun p => match p with | 0 => S | p + 1 => st p) (fun p => match p with | 0 => v | p + 1 => val p) (fun p => match p with | 0 => o | p + 1 => op p)
      (fun p => match p with | 0 => entOf H an prev j o S | p + 1 => ent p) := by
  simp only [opOK, Bool.and_eq_true] at hok
  obtain ⟨⟨hp, ht1⟩, ht2⟩ := hok
  refine ⟨fun p hp' => ?_, fun p hp' => ?_, fun p hp' => ?_, fun p hp' => ?_, fun p hp' e he => ?_, fun p hp' p' hl => ?_, fun p hp' t ht i hi => ?_⟩
  · cases p with
    | zero => exact hj
    | succ p => simpa using h.opj p (by simpa using hp')
  · cases p with
    | zero => exact ⟨prev, by simp, fun _ h => h, fun p' h => absurd h (Nat.not_lt_zero _)⟩
    | succ p =>
      obtain ⟨pv, h1, h2, h3⟩ := h.entj p (by simpa using hp')
      refine ⟨pv, by simpa using h1, fun i hi => h2 i ?_, fun p' hl hc => ?_⟩
      · cases chainy o.op with
        | true => simp only [cond_true, Nat.testBit_or, hi, Bool.true_or]
        | false => exact hi
      · cases p' with
        | zero =>
          have hc : chainy o.op = true := hc
          have := h2 j (by rw [hc]; simp [Nat.testBit_or, Nat.testBit_two_pow_self])
          simpa using this
        | succ p' => simpa using h3 p' (by omega) hc
  · cases p with
    | zero =>
      show Out T H ops o S v (st 0).objs (st 0).next
      rw [h0]
      have e1 : (S.step o.dst v objs n).objs = objs := by unfold St.step; cases o.dst <;> rfl
      have e2 : (S.step o.dst v objs n).next = n := by unfold St.step; cases o.dst <;> rfl
      rw [e1, e2]; exact hout
    | succ p => exact h.out p (by simpa using hp')
  · cases p with
    | zero =>
      show (st 0).tmps = _
      rw [h0]
      unfold St.step
      cases o.dst <;> rfl
    | succ p => exact h.next p (by simpa using hp')
  · cases p with
    | zero => exact pairsOK_all hp e he
    | succ p => exact h.old p (by simpa using hp') e (List.mem_cons_of_mem _ he)
  · cases p with
    | zero => exact absurd hl (Nat.not_lt_zero _)
    | succ p =>
      cases p' with
      | zero => exact h.old p (by simpa using hp') _ List.mem_cons_self
      | succ p' => exact h.new p (by simpa using hp') p' (by omega)
  · cases p with
    | zero =>
      have key : (Nat.testBit (entOf H an prev j o S).anc i = true ∧ ∃ e ∈ log, e.j = i) ∨ ((i = (entOf H an prev j o S).j ∨ Nat.testBit (nthN an i) (entOf H an prev j o S).j = true) ∧ ∀ e ∈ log, e.j ≠ i) := by
        rcases ht with ht | ht
        · exact tmpsOK_all ht1 t ht i hi
        · exact tmpsOK_all ht2 t ht i hi
      rcases key with key | key
      · exact .inl ⟨by simpa [entOf] using key.1, .inl key.2⟩
      · exact .inr ⟨by simpa [entOf] using key.1, key.2, fun p' h => absurd h (Nat.not_lt_zero _)⟩
    | succ p =>
      rcases h.src p (by simpa using hp') t ht i hi with ⟨h1, h2⟩ | ⟨h1, h2, h3⟩
      · refine .inl ⟨by simpa using h1, ?_⟩
        rcases h2 with ⟨e, he, hei⟩ | ⟨p', hl, hpi⟩
        · rcases List.mem_cons.1 he with rfl | he
          · exact .inr ⟨0, Nat.succ_pos _, by simpa [entOf] using hei⟩
          · exact .inl ⟨e, he, hei⟩
        · exact .inr ⟨p' + 1, by omega, by simpa using hpi⟩
      · refine .inr ⟨by simpa using h1, fun e he => h2 e (List.mem_cons_of_mem _ he), fun p' hl => ?_⟩
        cases p' with
        | zero => have := h2 _ List.mem_cons_self; simpa [entOf] using this
        | succ p' => simpa using h3 p' (by omega)

theorem stepK_out (hN : ∀ {R : Type} (f : FuncId) (args : List AV) (S : St) (K : AV → St → Option R), H.run f args S K = (H.run f args S fun v S' => some (v, S')).bind fun p => K p.1 p.2)
    {ops : List Oper} {R : Type} {o : Oper} {S : St} {K : St → Option R} {r : R} (hw : wantedA ops S o = some true) (h : stepK T H o S K = some r) : ∃ v objs n, Out T H ops o S v objs n ∧ K (S.step o.dst v objs n) = some r := by
  unfold stepK at h
  cases hc : chainy o.op with
  | true =>
    rw [hc] at h
    simp only [cond_true] at h
    rw [opV_nat hN, Option.bind_eq_some_iff] at h
    obtain ⟨⟨v, objs, n⟩, h1, h2⟩ := h
    exact ⟨v, objs, n, .chain hw hc h1, h2⟩
  | false =>
    rw [hc] at h
    simp only [cond_false] at h
    split at h
    · rename_i v hp
      exact ⟨v, _, _, .pure hw hc (by rw [hp]; rfl), h⟩
    · rename_i b v hp
      rcases bif_some h with ⟨hb, h⟩ | ⟨_, h⟩
      · exact ⟨v, _, _, .pure hw hc (by rw [hp]; exact ⟨hb, rfl⟩), h⟩
      · cases h
    · cases h

theorem regK_trace (hN : ∀ {R : Type} (f : FuncId) (args : List AV) (S : St) (K : AV → St → Option R), H.run f args S K = (H.run f args S fun v S' => some (v, S')).bind fun p => K p.1 p.2)
    {ops : Array Oper} {an : List Nat} {R : Type} {K : St → Option R} {r : R} : ∀ (pi : List Nat) (log : List Ent) (prev : Nat) (S : St), regK T H ops an pi log prev S K = some r →
      ∃ st val op ent, Tra T H ops.toList an log prev pi st val op ent ∧ st 0 = S ∧ K (st pi.length) = some r
  | [], log, prev, S, h => ⟨fun _ => S, fun _ => .top, fun _ => ⟨none, .move (.const undef), 0, "", #[], none⟩, fun _ => ⟨0, false, false, none, 0, 0⟩,
      ⟨fun p hp => absurd hp (Nat.not_lt_zero _), fun p hp => absurd hp (Nat.not_lt_zero _), fun p hp => absurd hp (Nat.not_lt_zero _), fun p hp => absurd hp (Nat.not_lt_zero _), fun p hp => absurd hp (Nat.not_lt_zero _), fun p hp => absurd hp (Nat.not_lt_zero _), fun p hp => absurd hp (Nat.not_lt_zero _)⟩, rfl, h⟩
  | j :: rest, log, prev, S, h => by
    simp only [regK] at h
    split at h
    · cases h
    · rename_i o hj
      rcases bif_some h with ⟨hok, h⟩ | ⟨_, h⟩
      rotate_left
      · cases h
      have fin : ∀ {v : AV} {objs : Objs} {n : Nat}, Out T H ops.toList o S v objs n → regK T H ops an rest (entOf H an prev j o S :: log) (bif chainy o.op then prev ||| 2 ^ j else prev) (S.step o.dst v objs n) K = some r →
          ∃ st val op ent, Tra T H ops.toList an log prev (j :: rest) st val op ent ∧ st 0 = S ∧ K (st (j :: rest).length) = some r := by
        intro v objs n hout h
        obtain ⟨st, val, op, ent, h1, h2, h3⟩ := regK_trace hN rest _ _ _ h
        exact ⟨_, _, _, _, Tra.cons hj hok hout h1 h2, rfl, h3⟩
      have run : wantedA ops.toList S o = some true → stepK T H o S (fun S' => regK T H ops an rest (entOf H an prev j o S :: log) (bif chainy o.op then prev ||| 2 ^ j else prev) S' K) = some r →
          ∃ st val op ent, Tra T H ops.toList an log prev (j :: rest) st val op ent ∧ st 0 = S ∧ K (st (j :: rest).length) = some r := by
        intro hw h
        obtain ⟨v, objs, n, h1, h2⟩ := stepK_out hN hw h
        exact fin h1 h2
      cases hg : guardOf ops S o with
      | no => rw [hg] at h; cases h
      | run =>
        rw [hg] at h
        refine run ?_ h
        unfold guardOf at hg
        unfold wantedA
        split at hg
        · rename_i e; rw [e]
        · split at hg
          · cases hg
          · split at hg <;> cases hg
      | skip =>
        rw [hg] at h
        refine fin (.skip ?_) h
        unfold guardOf at hg
        unfold wantedA
        split at hg
        · cases hg
        · rename_i e
          rw [e]
          split at hg
          · cases hg
          · rename_i hd
            simp only [hd]
            split at hg
            · cases hg
            · rename_i hl; simp only [hl]
            · cases hg
      | test d b want =>
        rw [hg] at h
        have hfacts : getA S.tmps d = .bool b ∧ wantedA ops.toList S o = some (b == want) := by
          unfold guardOf at hg
          unfold wantedA
          split at hg
          · cases hg
          · rename_i e
            rw [e]
            split at hg
            · cases hg
            · rename_i hd
              simp only [hd]
              split at hg
              · rename_i hb
                cases hg
                exact ⟨hb, by simp only [hb]⟩
              · cases hg
              · cases hg
        obtain ⟨hd, hw⟩ := hfacts
        dsimp only at h
        cases want with
        | true =>
          rcases bif_some h with ⟨hb, h'⟩ | ⟨hb, h'⟩
          · subst hb
            rw [put_self hd] at h'
            exact run (by rw [hw]; rfl) h'
          · subst hb
            rw [put_self hd] at h'
            exact fin (.skip (by rw [hw]; rfl)) h'
        | false =>
          rcases bif_some h with ⟨hb, h'⟩ | ⟨hb, h'⟩
          · subst hb
            rw [put_self hd] at h'
            exact fin (.skip (by rw [hw]; rfl)) h'
          · subst hb
            rw [put_self hd] at h'
            exact run (by rw [hw]; rfl) h'
end
end Go.Rx
/- Drawn regions: whatever the order, they end as in the one order. -/
namespace Go.Rx

theorem memN_iff {i : Nat} : ∀ {l : List Nat}, memN i l = true ↔ i ∈ l
  | [] => by simp [memN]
  | j :: l => by
    simp only [memN, Bool.or_eq_true, memN_iff (l := l), List.mem_cons]
    constructor
    · rintro (h | h)
      · exact .inl (Nat.eq_of_beq_eq_true h).symm
      · exact .inr h
    · rintro (h | h)
      · subst h; exact .inl (Nat.beq_refl _)
      · exact .inr h
theorem maskA_len (ts : List Nat) : ∀ (i : Nat) (l : List AV), (maskA ts i l).length = l.length
  | _, [] => rfl
  | i, a :: l => by simp only [maskA, List.length_cons, maskA_len ts (i + 1) l]
theorem maskA_get (ts : List Nat) : ∀ (i : Nat) (l : List AV) (k : Nat), getA (maskA ts i l) k = bif memN (i + k) ts then getA l k else .top
  | i, [], k => by cases h : memN (i + k) ts <;> cases k <;> rfl
  | i, a :: l, 0 => by simp [maskA, getA]
  | i, a :: l, k + 1 => by
    simp only [maskA, getA]
    rw [maskA_get ts (i + 1) l k, show i + 1 + k = i + (k + 1) by omega]
theorem ext_getA : ∀ {l m : List AV}, l.length = m.length → (∀ k, getA l k = getA m k) → l = m
  | [], [], _, _ => rfl
  | [], _ :: _, h, _ => by simp at h
  | _ :: _, [], h, _ => by simp at h
  | a :: l, b :: m, h, hk => by
    have h0 : a = b := hk 0
    rw [h0, ext_getA (by simpa using h) fun k => hk (k + 1)]
theorem maskA_congr {ts : List Nat} {l m : List AV} (hl : l.length = m.length) (h : ∀ t ∈ ts, getA l t = getA m t) : maskA ts 0 l = maskA ts 0 m := by
  refine ext_getA (by simp [maskA_len, hl]) fun k => ?_
  rw [maskA_get, maskA_get]
  cases hm : memN (0 + k) ts with
  | false => rfl
  | true => exact h k (by simpa using memN_iff.1 hm)
theorem idsAt_congr {l m : List AV} : ∀ {ts : List Nat}, (∀ t ∈ ts, getA l t = getA m t) → idsAt l ts = idsAt m ts
  | [], _ => rfl
  | t :: ts, h => by
    simp only [idsAt]
    rw [h t List.mem_cons_self, idsAt_congr fun t ht => h t (List.mem_cons_of_mem _ ht)]
theorem readsOf_congr {S S' : St} {op : Op} (h : ∀ t ∈ opTmps op, getA S.tmps t = getA S'.tmps t) : readsOf S op = readsOf S' op := by
  unfold readsOf
  rw [idsAt_congr h]
theorem pickO_congr {o o' : Objs} : ∀ {ids : List Nat}, (∀ id ∈ ids, look id o = look id o') → pickO o ids = pickO o' ids
  | [], _ => rfl
  | id :: ids, h => by
    simp only [pickO]
    rw [h id List.mem_cons_self, pickO_congr fun id hi => h id (List.mem_cons_of_mem _ hi)]
theorem pickO_look {o : Objs} {j : Nat} {oc : OC} : ∀ {ids : List Nat}, look j (pickO o ids) = some oc → look j o = some oc
  | [], h => by cases h
  | id :: ids, h => by
    simp only [pickO] at h
    split at h
    · rename_i oc' h'
      simp only [look] at h
      cases hb : Nat.beq id j with
      | true =>
        rw [hb] at h
        have := Nat.eq_of_beq_eq_true hb
        subst this
        cases h
        exact h'
      | false => rw [hb] at h; exact pickO_look h
    · exact pickO_look h

theorem apartL_spec {l m : List Nat} (h : apartL l m = true) : ∀ a ∈ l, a ∉ m := by
  induction l with
  | nil => intro a ha; cases ha
  | cons b l ih =>
    simp only [apartL, Bool.and_eq_true, Bool.not_eq_true'] at h
    intro a ha
    rcases List.mem_cons.1 ha with rfl | ha
    · intro hm; rw [memN_iff.2 hm] at h; exact absurd h.1 (by simp)
    · exact ih h.2 a ha

theorem belowL_spec {n : Nat} {l : List Nat} (h : belowL n l = true) : ∀ a ∈ l, a < n := by
  induction l with
  | nil => intro a ha; cases ha
  | cons b l ih =>
    simp only [belowL, Bool.and_eq_true] at h
    intro a ha
    rcases List.mem_cons.1 ha with rfl | ha
    · simpa [Nat.blt_eq] using h.1
    · exact ih h.2 a ha

/-! ### What comes before -/
theorem nthN_get : ∀ (l : List Nat) (i : Nat), nthN l i = l.getD i 0
  | [], i => by cases i <;> rfl
  | a :: l, 0 => rfl
  | a :: l, i + 1 => by simp only [nthN, List.getD_cons_succ]; exact nthN_get l i
theorem ancs_len : ∀ (l : List Oper) (acc : List Nat), (ancs l acc).length = acc.length + l.length
  | [], acc => rfl
  | o :: l, acc => by simp only [ancs, ancs_len l, List.length_append, List.length_cons, List.length_nil]; omega
theorem ancs_pre : ∀ (l : List Oper) (acc : List Nat), ∃ r, ancs l acc = acc ++ r
  | [], acc => ⟨[], by simp [ancs]⟩
  | o :: l, acc => by
    obtain ⟨r, h⟩ := ancs_pre l (acc ++ [ancE acc o.after.toList])
    exact ⟨ancE acc o.after.toList :: r, by simp only [ancs, h]; simp⟩
theorem ancs_at (l : List Oper) : ∀ (acc : List Nat) (i : Nat) (o : Oper), l[i]? = some o → nthN (ancs l acc) (acc.length + i) = ancE ((ancs l acc).take (acc.length + i)) o.after.toList := by
  induction l with
  | nil => intro acc i o h; simp at h
  | cons o' l ih =>
    intro acc i o h
    cases i with
    | zero =>
      simp at h; subst h
      obtain ⟨r, hr⟩ := ancs_pre l (acc ++ [ancE acc o'.after.toList])
      simp only [ancs, hr, Nat.add_zero]
      rw [nthN_get]
      simp
    | succ i =>
      have := ih (acc ++ [ancE acc o'.after.toList]) i o (by simpa using h)
      simp only [ancs]
      simp only [List.length_append, List.length_cons, List.length_nil] at this
      rw [show acc.length + (i + 1) = acc.length + (0 + 1) + i by omega]
      exact this
theorem ancE_bit {acc : List Nat} {k : Nat} : ∀ {l : List Edge}, Nat.testBit (ancE acc l) k = true → ∃ e ∈ l, Region.binds .any e = true ∧ (k = e.on ∨ Nat.testBit (nthN acc e.on) k = true)
  | [], h => by simp [ancE] at h
  | e :: l, h => by
    simp only [ancE] at h
    cases hb : Region.binds .any e with
    | true =>
      rw [hb] at h
      simp only [cond_true, Nat.testBit_or, Bool.or_eq_true] at h
      rcases h with (h | h) | h
      · exact ⟨e, List.mem_cons_self, hb, .inl (by have := Nat.testBit_two_pow.symm.trans h; simpa using (of_decide_eq_true this).symm)⟩
      · exact ⟨e, List.mem_cons_self, hb, .inr h⟩
      · obtain ⟨e', h1, h2⟩ := ancE_bit h
        exact ⟨e', List.mem_cons_of_mem _ h1, h2⟩
    | false =>
      rw [hb] at h
      obtain ⟨e', h1, h2⟩ := ancE_bit h
      exact ⟨e', List.mem_cons_of_mem _ h1, h2⟩
theorem nthN_take {l : List Nat} {n i k : Nat} (h : Nat.testBit (nthN (l.take n) i) k = true) : i < n ∧ Nat.testBit (nthN l i) k = true := by
  rw [nthN_get, List.getD_eq_getElem?_getD, List.getElem?_take] at h
  by_cases hi : i < n
  · rw [if_pos hi] at h
    exact ⟨hi, by rw [nthN_get, List.getD_eq_getElem?_getD]; exact h⟩
  · rw [if_neg hi] at h; simp at h
/-- what is in the bits is in each set that is closed -/
theorem anc_closed {ops : List Oper} {D : Nat → Prop} (hD : ∀ i o, ops[i]? = some o → D i → ∀ e ∈ o.after, Region.binds .any e = true → D e.on) : ∀ (i : Nat) (o : Oper), ops[i]? = some o →
    (∀ e ∈ o.after, Region.binds .any e = true → D e.on) → ∀ k, Nat.testBit (nthN (ancs ops []) i) k = true → D k := by
  intro i
  induction i using Nat.strongRecOn with
  | ind i ih =>
    intro o ho he k hk
    have h := ancs_at ops [] i o ho
    simp only [List.length_nil, Nat.zero_add] at h
    rw [h] at hk
    obtain ⟨e, h1, h2, h3⟩ := ancE_bit hk
    have h1 : e ∈ o.after := by simpa using h1
    have hon := he e h1 h2
    rcases h3 with rfl | h3
    · exact hon
    · obtain ⟨hlt, h3⟩ := nthN_take h3
      have hlen : e.on < ops.length := Nat.lt_trans hlt (List.getElem?_eq_some_iff.1 ho).1
      have ho' : ops[e.on]? = some (ops[e.on]) := List.getElem?_eq_getElem hlen
      exact ih e.on hlt _ ho' (hD _ _ ho' hon) k h3

theorem dstIn_spec {d : Nat} (l : List Oper) (h : dstIn d l = false) : ∀ (i : Nat) (o : Oper), l[i]? = some o → o.dst ≠ some d := by
  induction l with
  | nil => intro i o ho; simp at ho
  | cons a l ih =>
    simp only [dstIn, Bool.or_eq_false_iff] at h
    intro i o ho
    cases i with
    | zero =>
      simp at ho; subst ho
      intro hd
      rw [hd] at h
      simp at h
    | succ i => exact ih h.2 i o (by simpa using ho)
theorem dsts_apart {d : Nat} (l : List Oper) (h : dstsApart l = true) : ∀ (i i' : Nat) (o o' : Oper), l[i]? = some o → l[i']? = some o' → o.dst = some d → o'.dst = some d → i = i' := by
  induction l with
  | nil => intro i i' o o' ho; simp at ho
  | cons a l ih =>
    simp only [dstsApart, Bool.and_eq_true] at h
    intro i i' o o' ho ho' hd hd'
    have key : ∀ (i : Nat) (o : Oper), a.dst = some d → l[i]? = some o → o.dst = some d → False := by
      intro i o ha ho hd
      rw [ha] at h
      simp only [Bool.not_eq_true'] at h
      exact dstIn_spec l h.1 i o ho hd
    cases i with
    | zero =>
      cases i' with
      | zero => rfl
      | succ i' =>
        simp at ho; subst ho
        exact (key i' o' hd (by simpa using ho') hd').elim
    | succ i =>
      cases i' with
      | zero =>
        simp at ho'; subst ho'
        exact (key i o hd' (by simpa using ho) hd).elim
      | succ i' => rw [ih h.2 i i' o o' (by simpa using ho) (by simpa using ho') hd hd']
theorem idxOf_some {d : Nat} (l : List Oper) : ∀ {k i : Nat} {o : Oper}, l[i]? = some o → o.dst = some d → ∃ i', idxOf d k l = some (k + i') ∧ ∃ o' : Oper, l[i']? = some o' ∧ o'.dst = some d := by
  induction l with
  | nil => intro k i o ho; simp at ho
  | cons a l ih =>
    intro k i o ho hd
    by_cases ha : a.dst = some d
    · exact ⟨0, by simp [idxOf, ha], a, rfl, ha⟩
    · cases i with
      | zero => simp at ho; subst ho; exact absurd hd ha
      | succ i =>
        obtain ⟨i', h1, h2⟩ := ih (k := k + 1) (i := i) (by simpa using ho) hd
        refine ⟨i' + 1, ?_, by simpa using h2⟩
        simp only [idxOf]
        split
        · rename_i t ht
          have : Nat.beq t d = false := by
            cases hb : Nat.beq t d with
            | false => rfl
            | true => exact absurd (by rw [ht, Nat.eq_of_beq_eq_true hb]) ha
          rw [this, cond_false, h1, show k + 1 + i' = k + (i' + 1) by omega]
        · rw [h1, show k + 1 + i' = k + (i' + 1) by omega]
theorem allUp_spec {pi : List Nat} : ∀ {n : Nat}, allUp pi n = true → ∀ i, i < n → i ∈ pi
  | n + 1, h, i, hi => by
    simp only [allUp, Bool.and_eq_true] at h
    rcases Nat.lt_succ_iff_lt_or_eq.1 hi with h' | rfl
    · exact allUp_spec h.2 i h'
    · exact memN_iff.1 h.1
theorem backE_spec {k : Nat} (m : List Edge) (hm : backE k m = true) : ∀ e ∈ m, Region.binds .any e = true → e.on < k := by
  induction m with
  | nil => intro e he; cases he
  | cons x m ih =>
    intro e he hb
    simp only [backE, Bool.and_eq_true, Bool.or_eq_true, Bool.not_eq_true'] at hm
    rcases List.mem_cons.1 he with rfl | he
    · rcases hm.1 with h' | h'
      · rw [h'] at hb; cases hb
      · simpa [Nat.blt_eq] using h'
    · exact ih hm.2 e he hb
theorem backs_spec (l : List Oper) : ∀ (k : Nat), backs k l = true → ∀ (i : Nat) (o : Oper), l[i]? = some o → ∀ e ∈ o.after, Region.binds .any e = true → e.on < k + i := by
  induction l with
  | nil => intro k h i o ho; simp at ho
  | cons a l ih =>
    intro k h i o ho e he hb
    simp only [backs, Bool.and_eq_true] at h
    cases i with
    | zero =>
      simp at ho; subst ho
      exact backE_spec _ h.1 e (by simpa using he) hb
    | succ i =>
      have := ih (k + 1) h.2 i o (by simpa using ho) e he hb
      omega

/-! ### What an operation leaves alone -/
section
variable {P : Program} {T : Tab} {H : Handler}
theorem ev_mask {S S' : St} {ts : List Nat} (h : S'.tmps = maskA ts 0 S.tmps) {x : Operand} (hx : ∀ t ∈ tmO x, t ∈ ts) : ev S' x = ev S x := by
  cases x with
  | tmp t =>
    show getA S'.tmps t = getA S.tmps t
    rw [h, maskA_get, memN_iff.2 (by simpa using hx t (by simp [tmO])), cond_true]
  | const v => rfl
  | global g => rfl
  | func f => rfl

theorem store_touch {S : St} {t : TypeId} {id off : Nat} {v w : AV} {objs : Objs} (h : (storeH T S t (.ptr id off) v).gives w objs) {j : Nat} (hj : j ≠ id) : look j objs = look j S.objs := by
  unfold storeH at h
  split at h
  · exact h.elim
  · simp only at h
    split at h
    · rename_i cs new h1 h2
      cases hb : Nat.beq (widthL new) (by assumption : TInfo).size with
      | false => rw [hb] at h; exact h.elim
      | true =>
        rw [hb] at h
        simp only [cond_true] at h
        split at h
        · rename_i cs' _
          obtain ⟨_, rfl⟩ := h
          rw [look_setO, if_neg hj]
        · exact h.elim
    · exact h.elim

theorem evs_mask {S S' : St} {ts : List Nat} (h : S'.tmps = maskA ts 0 S.tmps) : ∀ {l : List Operand}, (∀ t ∈ tmL l, t ∈ ts) → mapA (ev S') l = mapA (ev S) l
  | [], _ => rfl
  | x :: l, hl => by
    have h1 : ev S' x = ev S x := ev_mask h fun t ht => hl t (by cases x <;> simp only [tmO, tmL, List.mem_cons, List.not_mem_nil, or_false] at ht ⊢ <;> first | exact .inl ht | exact ht.elim)
    have h2 : mapA (ev S') l = mapA (ev S) l := evs_mask h fun t ht => hl t (by cases x <;> simp only [tmL, List.mem_cons] <;> first | exact .inr ht | exact ht)
    simp only [mapA, h1, h2]
theorem mapP_mask {S S' : St} {ts : List Nat} (h : S'.tmps = maskA ts 0 S.tmps) : ∀ {l : List (Nat × Operand)}, (∀ t ∈ tmP l, t ∈ ts) → mapP S' l = mapP S l
  | [], _ => rfl
  | x :: l, hl => by
    obtain ⟨i, x⟩ := x
    have h1 : ev S' x = ev S x := ev_mask h fun t ht => hl t (by cases x <;> simp only [tmO, tmP, List.mem_cons, List.not_mem_nil, or_false] at ht ⊢ <;> first | exact .inl ht | exact ht.elim)
    have h2 : mapP S' l = mapP S l := mapP_mask h fun t ht => hl t (by cases x <;> simp only [tmP, List.mem_cons] <;> first | exact .inr ht | exact ht)
    simp only [mapP, h1, h2]

theorem opV_touch (hL : ∀ (f : FuncId) (args : List AV) (S : St) (v : AV) (S' : St), H.calm f = true → (H.run f args S fun v S' => some (v, S')) = some (v, S') → ∀ j, j ∉ idsV.idsVs args → j < S.next → look j S'.objs = look j S.objs)
    (hN : ∀ {R : Type} (f : FuncId) (args : List AV) (S : St) (K : AV → St → Option R), H.run f args S K = (H.run f args S fun v S' => some (v, S')).bind fun p => K p.1 p.2)
    {S : St} {o : Oper} {v : AV} {objs : Objs} {n : Nat} (h : (opV T H o.op (viewC S o) fun v o n => some (v, o, n)) = some (v, objs, n)) {ids : List Nat × Nat} (ht : touchOf H S o.op = some ids) {j : Nat} (hj : j ∉ ids.1) (hlt : j < ids.2) :
    look j objs = look j S.objs := by
  have hm : ∀ {x : Operand}, (∀ t ∈ tmO x, t ∈ opTmps o.op) → ev (viewC S o) x = ev S x := fun hx => ev_mask rfl hx
  have hgive : ∀ {r : HR}, (match r with
      | .done v objs => some (v, objs, (viewC S o).next + 1)
      | .guard b v objs => bif b then some (v, objs, (viewC S o).next + 1) else none
      | .no => (none : Option (AV × Objs × Nat))) = some (v, objs, n) → r.gives v objs := by
    intro r h
    split at h
    · cases h; exact ⟨rfl, rfl⟩
    · rcases bif_some h with ⟨hb, h⟩ | ⟨_, h⟩
      · cases h; exact ⟨hb, rfl, rfl⟩
      · cases h
    · cases h
  unfold touchOf at ht
  split at ht
  · rename_i t ho
    cases ht
    rw [ho] at h
    simp only [opV, callOf, pureOp] at h
    have h := hgive h
    simp only [heapOp] at h
    split at h
    · obtain ⟨_, rfl⟩ := h; rw [look_setO, if_neg (show ¬ j = (viewC S o).next from Nat.ne_of_lt hlt)]; rfl
    · exact h.elim
  · rename_i t x ho
    cases ht
    rw [ho] at h
    simp only [opV, callOf, pureOp] at h
    have h := hgive h
    simp only [heapOp] at h
    split at h
    · obtain ⟨_, rfl⟩ := h; rw [look_setO, if_neg (show ¬ j = (viewC S o).next from Nat.ne_of_lt hlt)]; rfl
    · exact h.elim
  · rename_i t a b ho
    cases ht
    rw [ho] at h
    simp only [opV, callOf, pureOp] at h
    have h := hgive h
    simp only [heapOp, makeH] at h
    split at h
    · split at h
      · obtain ⟨_, _, rfl⟩ := h; rw [look_setO, if_neg (show ¬ j = (viewC S o).next from Nat.ne_of_lt hlt)]; rfl
      · exact h.elim
    · exact h.elim
  · rename_i t len ps ho
    cases ht
    have hp : mapP (viewC S o) ps.toList = mapP S ps.toList := mapP_mask rfl (by rw [ho]; exact fun t ht => ht)
    rw [ho] at h
    simp only [opV, callOf, pureOp] at h
    have h := hgive h
    simp only [heapOp, buildSH] at h
    split at h
    · rename_i ty by' _
      cases hb : (inOrder 0 (mapP (viewC S o) ps.toList) && Nat.beq (lenP (mapP (viewC S o) ps.toList)) len && Nat.ble (len * width ty) 16777216 && Nat.blt 0 (width ty)) with
      | false => rw [hb] at h; exact h.elim
      | true =>
        rw [hb] at h
        simp only [cond_true] at h
        split at h
        · rename_i xs objs1 h1
          obtain ⟨_, rfl⟩ := h
          rw [look_setO, if_neg (show ¬ j = (viewC S o).next from Nat.ne_of_lt hlt)]
          refine partsTy_touch h1 ?_
          rw [hp, ← idsVsP_eq]
          exact hj
        · exact h.elim
    · exact h.elim
  · rename_i t a x ho
    split at ht
    · rename_i id off hev
      cases ht
      have hv : ev (viewC S o) a = .ptr id off := by
        rw [hm (x := a) ?_]; exact hev
        rw [ho]; intro t ht; cases a with
        | tmp u => simp only [tmO, List.mem_singleton] at ht; subst ht; simp [opTmps, tmL]
        | const _ => cases ht
        | global _ => cases ht
        | func _ => cases ht
      rw [ho] at h
      simp only [opV, callOf, pureOp] at h
      have h := hgive h
      simp only [heapOp, hv] at h
      exact store_touch (S := viewC S o) h (fun e => hj (by rw [e]; exact List.mem_cons_self))
    · cases ht
  · rename_i f args tys ho
    split at ht
    · rename_i g first caps hev
      cases hl : H.calm g with
      | false => rw [hl] at ht; cases ht
      | true =>
        rw [hl] at ht
        cases ht
        have hall : ∀ t ∈ tmL (f :: args.toList), t ∈ opTmps o.op := by rw [ho]; exact fun t ht => ht
        have hv : ev (viewC S o) f = .func g first caps := by
          rw [hm (x := f) ?_]; exact hev
          intro t ht; refine hall t ?_; cases f with
          | tmp u => simp only [tmO, List.mem_singleton] at ht; subst ht; simp [tmL]
          | const _ => cases ht
          | global _ => cases ht
          | func _ => cases ht
        have ha : mapA (ev (viewC S o)) args.toList = mapA (ev S) args.toList := evs_mask rfl fun t ht => hall t (by cases f <;> simp only [tmL, List.mem_cons] <;> first | exact .inr ht | exact ht)
        rw [ho] at h
        simp only [opV, callOf, hv, ha] at h
        rw [hN, Option.bind_eq_some_iff] at h
        obtain ⟨⟨v', S'⟩, h1, h2⟩ := h
        cases h2
        exact hL _ _ _ _ _ hl h1 j hj hlt
    · cases ht
  · rename_i args tys ho
    split at ht
    · rename_i s x he
      have hs : ev (viewC S o) s = ev S s := hm (by
        rw [ho]; intro t ht; show t ∈ tmL args.toList; rw [he]; cases s with
        | tmp u => simp only [tmO, List.mem_singleton] at ht; subst ht; simp [tmL]
        | const _ => cases ht
        | global _ => cases ht
        | func _ => cases ht)
      rw [ho] at h
      simp only [opV, callOf, pureOp] at h
      have h := hgive h
      simp only [heapOp, he] at h
      split at h
      · rename_i s' x' t u e1 e2
        cases e1
        cases hb : Nat.beq t u with
        | false => rw [hb] at h; exact h.elim
        | true =>
          rw [hb] at h
          simp only [cond_true, appendH, hs] at h
          split at h
          · split at h
            · split at h
              · rename_i hn
                rw [hn] at ht; cases ht
                obtain ⟨_, _, rfl⟩ := h
                rw [look_setO, if_neg (show ¬ j = (viewC S o).next from Nat.ne_of_lt hlt)]; rfl
              · rename_i id rg hn
                rw [hn] at ht; cases ht
                split at h
                · obtain ⟨_, _, rfl⟩ := h
                  rw [look_setO, if_neg (show ¬ j = (viewC S o).next from Nat.ne_of_lt hlt), look_dropO, if_neg (fun e => hj (by rw [e]; exact List.mem_cons_self))]; rfl
                · exact h.elim
              · exact h.elim
            · exact h.elim
          · exact h.elim
      · exact h.elim
    · cases ht
  · cases ht
end
end Go.Rx
/- Drawn regions: the run in any order. -/
namespace Go.Rx

theorem getA_out : ∀ {l : List AV} {k : Nat}, l.length ≤ k → getA l k = .top
  | [], k, _ => by cases k <;> rfl
  | _ :: l, 0, h => by simp at h
  | _ :: l, k + 1, h => getA_out (l := l) (by simpa using h)

structure Cx (P : Program) (T : Tab) (H : Handler) (ops : Array Oper) (pi : List Nat) (st : Nat → St) (val : Nat → AV) (op : Nat → Oper) (ent : Nat → Ent) : Prop where
  tab : TabOK P T
  hok : HOK P H
  reg : regOK ops.toList pi = true
  tra : Tra T H ops.toList (ancs ops.toList []) [] 0 pi st val op ent

section
variable {P : Program} {T : Tab} {H : Handler} {ops : Array Oper} {pi : List Nat} {st : Nat → St} {val : Nat → AV} {op : Nat → Oper} {ent : Nat → Ent} (C : Cx P T H ops pi st val op ent)
include C

theorem Cx.at {p : Nat} (hp : p < pi.length) : ops[pi.getD p 0]? = some (op p) := by
  have := C.tra.opj p hp
  rw [nthO_eq] at this
  simpa using this
theorem Cx.atL {p : Nat} (hp : p < pi.length) : ops.toList[pi.getD p 0]? = some (op p) := by
  have := C.tra.opj p hp
  rwa [nthO_eq] at this
theorem Cx.ej {p : Nat} (hp : p < pi.length) : (ent p).j = pi.getD p 0 ∧ (ent p).chain = chainy (op p).op ∧ (ent p).alloc = isAlloc (op p) ∧ (ent p).anc = nthN (ancs ops.toList []) (pi.getD p 0) ∧
    (ent p).fp = (bif chainy (op p).op then touchOf H (st p) (op p).op else some (readsOf (st p) (op p).op, 0)) := by
  obtain ⟨pv, h, _⟩ := C.tra.entj p hp
  rw [h]
  exact ⟨rfl, rfl, rfl, rfl, rfl⟩
theorem Cx.pair {p' p : Nat} (hl : p' < p) (hp : p < pi.length) : pi.getD p' 0 ≠ pi.getD p 0 ∧
    (Nat.testBit (ent p).anc (pi.getD p' 0) = true ∨ (match chainy (op p').op, chainy (op p).op with
     | true, true => isAlloc (op p) = true
     | false, false => True
     | false, true => apartF (some (readsOf (st p') (op p').op, 0)) (touchOf H (st p) (op p).op) = true
     | true, false => apartF (some (readsOf (st p) (op p).op, 0)) (touchOf H (st p') (op p').op) = true)) ∧
    (isAlloc (op p') = true → Nat.testBit (ent p).anc (pi.getD p' 0) = true → ∀ p'', p'' < p' → chainy (op p'').op = true → Nat.testBit (ent p).anc (pi.getD p'' 0) = true) := by
  have hp' := Nat.lt_trans hl hp
  obtain ⟨a1, a2, a3, a4, a5⟩ := C.ej hp'
  obtain ⟨b1, b2, b3, b4, b5⟩ := C.ej hp
  have h := C.tra.new p hp p' hl
  simp only [pairOK, Bool.and_eq_true, Bool.or_eq_true, Bool.not_eq_true', a1, a2, a3, b1, b2, b3] at h
  obtain ⟨⟨h1, h2⟩, h3⟩ := h
  refine ⟨fun e => ?_, h2.imp id fun h => ?_, fun ha hb p'' hl' hc => ?_⟩
  · rw [e, Nat.beq_refl] at h1; cases h1
  · rw [a5, b5] at h
    cases hc : chainy (op p').op <;> cases hc' : chainy (op p).op <;> rw [hc, hc'] at h
    · trivial
    · exact h
    · exact h
    · exact h
  · rcases h3 with h3 | h3
    · rw [ha, hb] at h3; cases h3
    · have h3 := Nat.eq_of_beq_eq_true h3
      obtain ⟨pv, e1, _, e3⟩ := C.tra.entj p' hp'
      have hpv : (ent p').prev = pv := by rw [e1]; rfl
      have hb' : Nat.testBit (ent p').prev (pi.getD p'' 0) = true := by rw [hpv]; exact e3 p'' hl' hc
      rw [← h3, Nat.testBit_and, Bool.and_eq_true] at hb'
      exact hb'.2
theorem Cx.inj {p p' : Nat} (hp : p < pi.length) (hp' : p' < pi.length) (h : pi.getD p 0 = pi.getD p' 0) : p = p' := by
  rcases Nat.lt_trichotomy p p' with hl | rfl | hl
  · exact absurd h (C.pair hl hp').1
  · rfl
  · exact absurd h.symm (C.pair hl hp).1
theorem Cx.pos {i : Nat} (hi : i < ops.size) : ∃ p, p < pi.length ∧ pi.getD p 0 = i := by
  have h := C.reg
  simp only [regOK, Bool.and_eq_true] at h
  have := allUp_spec h.2 i (by simpa using hi)
  obtain ⟨p, hp, e⟩ := List.getElem_of_mem this
  exact ⟨p, hp, by simp [List.getD_eq_getElem?_getD, hp, e]⟩
theorem Cx.dst {p p' d : Nat} (hp : p < pi.length) (hp' : p' < pi.length) (h : (op p).dst = some d) (h' : (op p').dst = some d) : p = p' := by
  have hr := C.reg
  simp only [regOK, Bool.and_eq_true] at hr
  exact C.inj hp hp' (dsts_apart _ hr.1.1 _ _ _ _ (C.atL hp) (C.atL hp') h h')
/-- what is looked at was there before, or is written behind -/
theorem Cx.src {p t p' : Nat} (hp : p < pi.length) (ht : t ∈ opTmps (op p).op ∨ t ∈ guardTmp ops.toList (op p)) (hp' : p' < pi.length) (hd : (op p').dst = some t) :
    (p' < p ∧ Nat.testBit (ent p).anc (pi.getD p' 0) = true) ∨ (p ≤ p' ∧ (p' = p ∨ Nat.testBit (ent p').anc (pi.getD p 0) = true)) := by
  obtain ⟨i', h1, o', h2, h3⟩ := idxOf_some (k := 0) _ (C.atL hp') hd
  have hr := C.reg
  simp only [regOK, Bool.and_eq_true] at hr
  have e : i' = pi.getD p' 0 := dsts_apart _ hr.1.1 _ _ _ _ h2 (C.atL hp') h3 hd
  rw [Nat.zero_add, e] at h1
  rcases C.tra.src p hp t ht _ h1 with ⟨h4, h5⟩ | ⟨h4, _, h5⟩
  · rw [(C.ej hp).2.2.2.1]
    rcases h5 with ⟨_, hx, _⟩ | ⟨p'', hl, hpe⟩
    · cases hx
    · have := C.inj (Nat.lt_trans hl hp) hp' hpe
      subst this
      exact .inl ⟨hl, h4⟩
  · refine .inr ⟨?_, ?_⟩
    · rcases Nat.lt_or_ge p' p with h | h
      · exact absurd rfl (h5 p' h)
      · exact h
    · rcases h4 with h4 | h4
      · exact .inl (C.inj hp' hp h4)
      · rw [(C.ej hp').2.2.2.1]; exact .inr h4

theorem Cx.len {p : Nat} (hp : p ≤ pi.length) : (st p).tmps.length = (st 0).tmps.length := by
  induction p with
  | zero => rfl
  | succ p ih =>
    rw [C.tra.next p hp, ← ih (Nat.le_of_succ_le hp)]
    unfold St.put
    split
    · exact setA_len _ _ _
    · rfl
theorem Cx.stay {t p : Nat} (hp : p ≤ pi.length) : ∀ {q : Nat}, p ≤ q → q ≤ pi.length → (∀ p', p ≤ p' → p' < q → (op p').dst ≠ some t) → getA (st q).tmps t = getA (st p).tmps t := by
  intro q
  induction q with
  | zero => intro h _ _; rw [Nat.le_zero.1 h]
  | succ q ih =>
    intro h hq hn
    rcases Nat.le_succ_iff.1 h with h' | rfl
    · rw [← ih h' (Nat.le_of_succ_le hq) fun p' h1 h2 => hn p' h1 (Nat.lt_succ_of_lt h2), C.tra.next q hq]
      have := hn q h' (Nat.lt_succ_self _)
      unfold St.put
      split
      · rename_i d hd
        show getA (setA _ _ _) t = _
        rw [setA_get, if_neg (fun hx => this (by rw [hd, hx.1]))]
      · rfl
    · rfl
theorem Cx.own {p d : Nat} (hp : p < pi.length) (hd : (op p).dst = some d) (hlt : d < (st 0).tmps.length) : getA (st pi.length).tmps d = val p := by
  rw [C.stay (p := p + 1) hp hp (Nat.le_refl _) fun p' h1 h2 hd' => by have := C.dst hp h2 hd hd'; omega]
  rw [C.tra.next p hp, hd]
  show getA (setA _ _ _) d = _
  rw [setA_get, if_pos ⟨rfl, by rw [C.len (Nat.le_of_lt hp)]; exact hlt⟩]

theorem Cx.plain {p : Nat} (hp : p < pi.length) (hc : chainy (op p).op = false) : (st (p + 1)).objs = (st p).objs ∧ (st (p + 1)).next = (st p).next := by
  have h := C.tra.out p hp
  generalize val p = v at h
  generalize (st (p + 1)).objs = o at h
  generalize (st (p + 1)).next = n at h
  cases h with
  | skip _ => exact ⟨rfl, rfl⟩
  | pure _ _ _ => exact ⟨rfl, rfl⟩
  | chain _ h' _ => rw [hc] at h'; cases h'
theorem Cx.touch {p : Nat} (hp : p < pi.length) {ids : List Nat × Nat} (ht : touchOf H (st p) (op p).op = some ids) {j : Nat} (hj : j ∉ ids.1) (hlt : j < ids.2) : look j (st (p + 1)).objs = look j (st p).objs := by
  have h := C.tra.out p hp
  generalize val p = v at h
  generalize (st (p + 1)).objs = o at h ⊢
  generalize (st (p + 1)).next = n at h
  cases h with
  | skip _ => rfl
  | pure _ _ _ => rfl
  | chain _ _ h' => exact opV_touch C.hok.calm C.hok.nat h' ht hj hlt
/-- what is read is left alone in between -/
theorem Cx.same {ids : List Nat} {p : Nat} (hp : p ≤ pi.length) : ∀ {q : Nat}, p ≤ q → q ≤ pi.length → (∀ p', p ≤ p' → p' < q → chainy (op p').op = true → apartF (some (ids, 0)) (touchOf H (st p') (op p').op) = true) →
    ∀ id ∈ ids, look id (st q).objs = look id (st p).objs := by
  intro q
  induction q with
  | zero => intro h _ _ id _; rw [Nat.le_zero.1 h]
  | succ q ih =>
    intro h hq hn id hid
    rcases Nat.le_succ_iff.1 h with h' | rfl
    · rw [← ih h' (Nat.le_of_succ_le hq) (fun p' h1 h2 => hn p' h1 (Nat.lt_succ_of_lt h2)) id hid]
      cases hc : chainy (op q).op with
      | false => rw [(C.plain hq hc).1]
      | true =>
        have ha := hn q h' (Nat.lt_succ_self _) hc
        cases ht : touchOf H (st q) (op q).op with
        | none =>
          rw [ht] at ha
          cases ids with
          | nil => cases hid
          | cons => cases ha
        | some m =>
          rw [ht] at ha
          simp only [apartF, Bool.and_eq_true] at ha
          exact C.touch hq ht (apartL_spec ha.1 id hid) (belowL_spec ha.2 id hid)
    · rfl
end
end Go.Rx
/- Drawn regions: the invariant. -/
namespace Go.Rx

theorem mems_less {E : Env} {keep : Nat → Prop} {objs objs' : Objs} (h : Mems E keep objs) (hs : ∀ j oc, look j objs' = some oc → look j objs = some oc) : Mems E keep objs' :=
  ⟨fun id oc hl => h.rep id oc (hs _ _ hl), fun id oc b hl => h.sep id oc b (hs _ _ hl), fun id id' oc oc' b hl hl' => h.inj id id' oc oc' b (hs _ _ hl) (hs _ _ hl'), h.rob, h.kb⟩

structure DInv (T : Tab) (ops : Array Oper) (pi : List Nat) (st : Nat → St) (op : Nat → Oper) (keep : Nat → Prop) (z : Nat) (E0 : Env)
    (listed : Array Bool) (q : Nat) (blk : Nat → Option Nat) (E : Env) (a : Act) : Prop where
  le : q ≤ pi.length
  done : ∀ p, p < q → chainy (op p).op = true → listed.getD (pi.getD p 0) false = true
  ahead : ∀ p, q ≤ p → p < pi.length → chainy (op p).op = true → listed.getD (pi.getD p 0) false = true → isAlloc (op p) = true ∧ ∃ b, blk p = some b
  pend : ∀ p b, blk p = some b → q ≤ p ∧ p < pi.length ∧ listed.getD (pi.getD p 0) false = true ∧ isAlloc (op p) = true ∧ ∃ d t i vs e, (op p).op = .alloc t ∧ (op p).dst = some d ∧ tget t T = some i ∧
    E.w.heap[b]? = some (.cells vs e (0, 0)) ∧ CRepL E i.zc vs.toList ∧ ¬ keep b ∧ ¬ E.ro b ∧ ∀ x, a.tmps[d]? = some x → x = .pointer (some ⟨b, 0, none⟩)
  inj : ∀ p p' b, blk p = some b → blk p' = some b → p = p'
  size : a.tmps.size = z
  len : (st 0).tmps.length = z
  defers : a.defers = []
  next : E.N = (st q).next
  mems : Mems E (fun b => keep b ∨ ∃ p, blk p = some b) (st q).objs
  slots : ∀ t x, a.tmps[t]? = some x → (∀ p, p < pi.length → (op p).dst = some t → listed.getD (pi.getD p 0) false = true ∧ blk p = none) → SRep E (getA (st pi.length).tmps t) x
  early : ∀ t x, a.tmps[t]? = some x → (∀ p, p < pi.length → (op p).dst = some t → listed.getD (pi.getD p 0) false = false) → SRep E (getA (st 0).tmps t) x
  later : Later keep E0 E
  closed : ∀ i o, ops[i]? = some o → listed.getD i false = true → ∀ e ∈ o.after, Region.binds .any e = true → listed.getD e.on false = true
  lsize : listed.size = ops.size

theorem alloc_chain {o : Oper} (h : isAlloc o = true) : chainy o.op = true ∧ o.guard = none ∧ ∃ t d, o.op = .alloc t ∧ o.dst = some d := by
  simp only [isAlloc, Bool.and_eq_true] at h
  obtain ⟨⟨h1, h2⟩, h3⟩ := h
  have : ∃ t, o.op = .alloc t := by
    unfold isAllocOp at h1
    split at h1
    · rename_i t e; exact ⟨t, e⟩
    · cases h1
  obtain ⟨t, e⟩ := this
  refine ⟨by rw [e]; rfl, by simpa using h2, t, ?_⟩
  cases hd : o.dst with
  | none => rw [hd] at h3; cases h3
  | some d => exact ⟨d, e, rfl⟩

section
variable {P : Program} {T : Tab} {H : Handler} {ops : Array Oper} {pi : List Nat} {st : Nat → St} {val : Nat → AV} {op : Nat → Oper} {ent : Nat → Ent} (C : Cx P T H ops pi st val op ent)
include C

theorem Cx.alloc {p : Nat} (hp : p < pi.length) (ha : isAlloc (op p) = true) : ∃ t i, (op p).op = .alloc t ∧ tget t T = some i ∧ val p = .ptr (st p).next 0 ∧ (st (p + 1)).objs = setO (st p).next (.box i.zc) (st p).objs ∧ (st (p + 1)).next = (st p).next + 1 := by
  obtain ⟨hc, hg, t, d, ho, hd⟩ := alloc_chain ha
  have h := C.tra.out p hp
  generalize val p = v at h ⊢
  generalize (st (p + 1)).objs = o at h ⊢
  generalize (st (p + 1)).next = n at h ⊢
  have hw : wantedA ops.toList (st p) (op p) = some true := by unfold wantedA; rw [hg]
  cases h with
  | skip h => rw [hw] at h; cases h
  | pure _ h _ => rw [hc] at h; cases h
  | chain _ _ h =>
    rw [ho] at h
    simp only [opV, callOf, pureOp, heapOp] at h
    cases hi : tget t T with
    | none => rw [hi] at h; cases h
    | some i =>
      rw [hi] at h
      cases h
      exact ⟨t, i, ho, hi, rfl, rfl, rfl⟩

variable {keep : Nat → Prop} {z : Nat} {E0 : Env}
/-- on, over what is done -/
theorem Cx.adv {listed : Array Bool} {a : Act} : ∀ (k : Nat) {q : Nat} {blk : Nat → Option Nat} {E : Env}, pi.length - q = k → DInv T ops pi st op keep z E0 listed q blk E a →
    ∃ q' blk' E', E'.w = E.w ∧ DInv T ops pi st op keep z E0 listed q' blk' E' a ∧ (q' < pi.length → chainy (op q').op = true ∧ listed.getD (pi.getD q' 0) false = false) := by
  intro k
  induction k with
  | zero =>
    intro q blk E hk D
    exact ⟨q, blk, E, rfl, D, fun h => by omega⟩
  | succ k ih =>
    intro q blk E hk D
    have hq : q < pi.length := by omega
    cases hc : chainy (op q).op with
    | false =>
      obtain ⟨e1, e2⟩ := C.plain hq hc
      refine ih (q := q + 1) (blk := blk) (E := E) (by omega) ⟨hq, fun p hp hc' => ?_, fun p hp => D.ahead p (by omega), fun p b hb => ?_, D.inj, D.size, D.len, D.defers, D.next.trans e2.symm, by rw [e1]; exact D.mems, D.slots, D.early, D.later, D.closed, D.lsize⟩
      · rcases Nat.lt_succ_iff_lt_or_eq.1 hp with h | rfl
        · exact D.done p h hc'
        · rw [hc] at hc'; cases hc'
      · obtain ⟨h1, h2, h3, h4, h5⟩ := D.pend p b hb
        refine ⟨?_, h2, h3, h4, h5⟩
        rcases Nat.eq_or_lt_of_le h1 with rfl | h
        · rw [(alloc_chain h4).1] at hc; cases hc
        · exact h
    | true =>
      cases hl : listed.getD (pi.getD q 0) false with
      | false => exact ⟨q, blk, E, rfl, D, fun _ => ⟨hc, hl⟩⟩
      | true =>
        obtain ⟨ha, b, hb⟩ := D.ahead q (Nat.le_refl _) hq hc hl
        obtain ⟨_, _, _, _, d, t, i, vs, e, ho, hd, hi, hrow, hz, hnk, hnr, htmp⟩ := D.pend q b hb
        obtain ⟨t', i', ho', hi', hval, hobjs, hnext⟩ := C.alloc hq ha
        rw [ho] at ho'; cases ho'
        rw [hi] at hi'; cases hi'
        let E1 : Env := { E with M := fun id => if id = E.N then ⟨some b, 0, 0, 0, 0⟩ else E.M id, N := E.N + 1 }
        let blk' : Nat → Option Nat := fun p => if p = q then none else blk p
        have hL : Later (fun b => keep b ∨ ∃ p, blk p = some b) E E1 := ⟨fun _ h => h, fun _ h => .inl h, fun id hid => by show (if id = E.N then _ else E.M id) = _; rw [if_neg (Nat.ne_of_lt hid)], Nat.le_succ _, Nat.le_refl _, fun _ _ => rfl, fun _ _ => rfl, Quiet.refl _⟩
        have hM1 : Mems E1 (fun b => keep b ∨ ∃ p, blk p = some b) (st q).objs := by
          have hm := D.mems
          have hid : ∀ id oc, look id (st q).objs = some oc → E1.M id = E.M id := fun id oc h => hL.M id (hm.rep _ _ h).1
          exact ⟨fun id oc h => ⟨Nat.lt_succ_of_lt (hm.rep _ _ h).1, by rw [hid id oc h]; exact ORep.later hL (fun _ _ => rfl) (hm.rep _ _ h).2⟩,
            fun id oc b' h h' => hm.sep id oc b' h (by rw [← hid id oc h]; exact h'), fun id id' oc oc' b' h h' g g' => hm.inj id id' oc oc' b' h h' (by rw [← hid id oc h]; exact g) (by rw [← hid id' oc' h']; exact g'), hm.rob, hm.kb⟩
        have hMN : E1.M E.N = ⟨some b, 0, 0, 0, 0⟩ := if_pos rfl
        have hnk' : ¬ (keep b ∨ ∃ p, blk' p = some b) := by
          rintro (h | ⟨p, h⟩)
          · exact hnk h
          · by_cases hp : p = q
            · simp [blk', hp] at h
            · simp only [blk', if_neg hp] at h
              exact hp (D.inj p q b h hb)
        have hM2 : Mems E1 (fun b => keep b ∨ ∃ p, blk' p = some b) (setO E.N (.box i.zc) (st q).objs) := by
          refine mems_put (b := b) (hM1.weaker fun k hk => ?_) (Nat.lt_succ_self _) (by rw [hMN]) hnk' hnr ?_
          · rcases hk with (hk | ⟨p, hk⟩) | rfl
            · exact .inl hk
            · by_cases hp : p = q
              · simp [blk', hp] at hk
              · simp only [blk', if_neg hp] at hk; exact .inr ⟨p, hk⟩
            · exact .inr ⟨q, hb⟩
          · exact ⟨b, vs, e, by rw [hMN], hrow, CRepL.later hL hz⟩
        have D' : DInv T ops pi st op keep z E0 listed (q + 1) blk' E1 a := by
         refine ⟨hq, fun p hp hc' => ?_, fun p hp hn hc' hl' => ?_, fun p b2 hb2 => ?_, fun p p' b2 h h' => ?_, D.size, D.len, D.defers, ?_, ?_, fun t x hx hcond => ?_, fun t x hx hcond => SRep.later hL (D.early t x hx hcond), ?_, D.closed, D.lsize⟩
         · rcases Nat.lt_succ_iff_lt_or_eq.1 hp with h | rfl
           · exact D.done p h hc'
           · exact hl
         · obtain ⟨h1, b2, h2⟩ := D.ahead p (by omega) hn hc' hl'
           exact ⟨h1, b2, by simp only [blk']; rw [if_neg (by omega)]; exact h2⟩
         · by_cases hp : p = q
           · simp [blk', hp] at hb2
           · simp only [blk', if_neg hp] at hb2
             obtain ⟨g1, g2, g3, g4, d2, t2, i2, vs2, e2, g5, g6, g7, g8, g9, g10⟩ := D.pend p b2 hb2
             exact ⟨by omega, g2, g3, g4, d2, t2, i2, vs2, e2, g5, g6, g7, g8, CRepL.later hL g9, g10⟩
         · by_cases hp : p = q
           · simp [blk', hp] at h
           · by_cases hp' : p' = q
             · simp [blk', hp'] at h'
             · simp only [blk', if_neg hp] at h
               simp only [blk', if_neg hp'] at h'
               exact D.inj p p' b2 h h'
         · show E.N + 1 = _
           rw [D.next, hnext]
         · rw [hobjs, ← D.next]; exact hM2
         · by_cases ht : (op q).dst = some t
           · rw [hd] at ht; cases ht
             have hlt : d < (st 0).tmps.length := by rw [D.len, ← D.size]; exact (Array.getElem?_eq_some_iff.1 hx).1
             rw [C.own hq hd hlt, hval, htmp x hx, ← D.next]
             exact ⟨Nat.lt_succ_self _, b, by rw [hMN], rfl⟩
           · refine SRep.later hL (D.slots t x hx fun p hp hdp => ?_)
             obtain ⟨c1, c2⟩ := hcond p hp hdp
             refine ⟨c1, ?_⟩
             have hpq : p ≠ q := fun e => ht (by rw [← e]; exact hdp)
             simpa only [blk', if_neg hpq] using c2
         · exact D.later.trans (hL.weaker fun _ h => .inl h)
        obtain ⟨q', b', E', h1, h2, h3⟩ := ih (q := q + 1) (blk := blk') (E := E1) (by omega) D'
        exact ⟨q', b', E', h1, h2, h3⟩

/-- one that is done: the slot -/
theorem Cx.mark {listed : Array Bool} {a : Act} {q : Nat} {blk : Nat → Option Nat} {E : Env} (D : DInv T ops pi st op keep z E0 listed q blk E a) {p : Nat} (hp : p < pi.length) (hun : listed.getD (pi.getD p 0) false = false)
    (hedge : ∀ e ∈ (op p).after, Region.binds .any e = true → listed.getD e.on false = true) {q' : Nat} {E' : Env} (hL : Later (fun b => keep b ∨ ∃ p, blk p = some b) E E')
    (hM : Mems E' (fun b => keep b ∨ ∃ p, blk p = some b) (st q').objs) (hN : E'.N = (st q').next) (hq : (q' = q ∧ chainy (op p).op = false) ∨ (p = q ∧ q' = q + 1 ∧ isAlloc (op p) = false)) {x : Value} (hx : SRep E' (val p) x) :
    DInv T ops pi st op keep z E0 (listed.setIfInBounds (pi.getD p 0) true) q' blk E' (a.put (op p).dst x) := by
  have hin : pi.getD p 0 < listed.size := by rw [D.lsize]; exact (Array.getElem?_eq_some_iff.1 (C.at hp)).1
  have hset : ∀ p', p' < pi.length → (listed.setIfInBounds (pi.getD p 0) true).getD (pi.getD p' 0) false = true → p' = p ∨ listed.getD (pi.getD p' 0) false = true := by
    intro p' hp' h
    by_cases he : p' = p
    · exact .inl he
    · rw [getD_set_ne false (fun e => he (C.inj hp hp' e).symm)] at h; exact .inr h
  have hself : (listed.setIfInBounds (pi.getD p 0) true).getD (pi.getD p 0) false = true := by
    generalize pi.getD p 0 = i at hin ⊢
    simp [hin]
  have htm : ∀ t y, (a.put (op p).dst x).tmps[t]? = some y → ((op p).dst = some t ∧ y = x ∧ t < z) ∨ ((op p).dst ≠ some t ∧ a.tmps[t]? = some y) := by
    intro t y hy
    cases hd : (op p).dst with
    | none => rw [hd] at hy; exact .inr ⟨by simp, hy⟩
    | some d =>
      rw [hd] at hy
      simp only [Act.put, Array.getElem?_setIfInBounds] at hy
      by_cases hdt : d = t
      · subst hdt
        rw [if_pos rfl] at hy
        by_cases hlt : d < a.tmps.size
        · rw [if_pos hlt] at hy; cases hy
          exact .inl ⟨rfl, rfl, by rw [← D.size]; exact hlt⟩
        · rw [if_neg hlt] at hy; cases hy
      · rw [if_neg hdt] at hy
        exact .inr ⟨by simp [hdt], hy⟩
  refine ⟨?_, fun p' hp' hc' => ?_, fun p' h1 h2 hc' hl' => ?_, fun p' b hb => ?_, D.inj, ?_, D.len, ?_, hN, hM, fun t y hy hcond => ?_, fun t y hy hcond => ?_, D.later.trans (hL.weaker fun _ h => .inl h), fun i o hi hl' e he hb => ?_, ?_⟩
  · rcases hq with ⟨rfl, _⟩ | ⟨rfl, rfl, _⟩
    · exact D.le
    · exact hp
  · rcases hq with ⟨rfl, _⟩ | ⟨rfl, rfl, _⟩
    · exact getD_set_true (D.done p' hp' hc')
    · rcases Nat.lt_succ_iff_lt_or_eq.1 hp' with h | rfl
      · exact getD_set_true (D.done p' h hc')
      · exact hself
  · rcases hset p' h2 hl' with rfl | hl'
    · rcases hq with ⟨_, h⟩ | ⟨rfl, rfl, _⟩
      · rw [h] at hc'; cases hc'
      · omega
    · refine D.ahead p' ?_ h2 hc' hl'
      rcases hq with ⟨rfl, _⟩ | ⟨rfl, rfl, _⟩
      · exact h1
      · omega
  · obtain ⟨g1, g2, g3, g4, d2, t2, i2, vs2, e2, g5, g6, g7, g8, g9, g10, g11, g12⟩ := D.pend p' b hb
    have hpp : p' ≠ p := fun e => by rw [e, hun] at g3; cases g3
    refine ⟨?_, g2, getD_set_true g3, g4, d2, t2, i2, vs2, e2, g5, g6, g7, (hL.heapKeep b (.inr ⟨p', hb⟩)).trans g8, CRepL.later hL g9, g10, fun hr => ?_, fun y hy => ?_⟩
    · rcases hq with ⟨rfl, _⟩ | ⟨rfl, rfl, _⟩
      · exact g1
      · omega
    · rcases hL.roN b hr with h | h
      · exact g11 h
      · exact h (.inr ⟨p', hb⟩)
    · rcases htm d2 y hy with ⟨h, _⟩ | ⟨_, h⟩
      · exact absurd (C.dst g2 hp g6 h) hpp
      · exact g12 y h
  · cases hd : (op p).dst with
    | none => exact D.size
    | some d => simp only [Act.put, Array.size_setIfInBounds]; exact D.size
  · cases (op p).dst <;> exact D.defers
  · rcases htm t y hy with ⟨hd, rfl, hlt⟩ | ⟨hd, hy'⟩
    · rw [C.own hp hd (by rw [D.len]; exact hlt)]; exact hx
    · refine SRep.later hL (D.slots t y hy' fun p' hp' hd' => ?_)
      obtain ⟨c1, c2⟩ := hcond p' hp' hd'
      refine ⟨(hset p' hp' c1).resolve_left fun e => hd (by rw [← e]; exact hd'), c2⟩
  · rcases htm t y hy with ⟨hd, _, _⟩ | ⟨hd, hy'⟩
    · have := hcond p hp hd
      rw [hself] at this; cases this
    · refine SRep.later hL (D.early t y hy' fun p' hp' hd' => ?_)
      have h := hcond p' hp' hd'
      cases hl : listed.getD (pi.getD p' 0) false with
      | false => rfl
      | true => rw [getD_set_true hl] at h; cases h
  · by_cases hij : pi.getD p 0 = i
    · subst hij
      rw [C.at hp] at hi; cases hi
      exact getD_set_true (hedge e he hb)
    · rw [getD_set_ne false hij] at hl'
      exact getD_set_true (D.closed i o hi hl' e he hb)
  · rw [Array.size_setIfInBounds]; exact D.lsize
end
end Go.Rx
/- Drawn regions: one more operation; all of them. -/
namespace Go.Rx
section
variable {P : Program} {T : Tab} {H : Handler} {ops : Array Oper} {pi : List Nat} {st : Nat → St} {val : Nat → AV} {op : Nat → Oper} {ent : Nat → Ent} (C : Cx P T H ops pi st val op ent)
variable {keep : Nat → Prop} {z : Nat} {E0 : Env} {listed : Array Bool} {a : Act} {q : Nat} {blk : Nat → Option Nat} {E : Env}
include C

/-- what is ahead of one that is ready is done -/
theorem Cx.before (D : DInv T ops pi st op keep z E0 listed q blk E a) (hmax : q < pi.length → chainy (op q).op = true ∧ listed.getD (pi.getD q 0) false = false) {p : Nat} (hp : p < pi.length)
    (hedge : ∀ e ∈ (op p).after, Region.binds .any e = true → listed.getD e.on false = true) {p' : Nat} (hl : p' < p) (hb : Nat.testBit (ent p).anc (pi.getD p' 0) = true) :
    listed.getD (pi.getD p' 0) false = true ∧ blk p' = none := by
  have hcl : ∀ k, Nat.testBit (ent p).anc k = true → listed.getD k false = true := by
    intro k hk
    rw [(C.ej hp).2.2.2.1] at hk
    exact anc_closed (D := fun k => listed.getD k false = true) (fun i o ho hi => D.closed i o (by simpa using ho) hi) _ _ (C.atL hp) hedge k hk
  refine ⟨hcl _ hb, ?_⟩
  cases hblk : blk p' with
  | none => rfl
  | some b =>
    obtain ⟨h1, h2, h3, h4, _⟩ := D.pend p' b hblk
    have hqn : q < pi.length := Nat.lt_of_le_of_lt h1 h2
    obtain ⟨hc, hun⟩ := hmax hqn
    rcases Nat.eq_or_lt_of_le h1 with rfl | hlt
    · rw [h3] at hun; cases hun
    · have := hcl _ ((C.pair hl hp).2.2 h4 hb q hlt hc)
      rw [this] at hun; cases hun

theorem Cx.slotsAt (D : DInv T ops pi st op keep z E0 listed q blk E a) (hmax : q < pi.length → chainy (op q).op = true ∧ listed.getD (pi.getD q 0) false = false) {p : Nat} (hp : p < pi.length)
    (hun : listed.getD (pi.getD p 0) false = false) (hedge : ∀ e ∈ (op p).after, Region.binds .any e = true → listed.getD e.on false = true) {t : Nat} (ht : t ∈ opTmps (op p).op ∨ t ∈ guardTmp ops.toList (op p)) {x : Value} (hx : a.tmps[t]? = some x) :
    SRep E (getA (st p).tmps t) x := by
  by_cases hw : ∃ p', p' < pi.length ∧ (op p').dst = some t
  · obtain ⟨p', hp', hd⟩ := hw
    rcases C.src hp ht hp' hd with ⟨h1, h2⟩ | ⟨h1, h2⟩
    · rw [← C.stay (t := t) (Nat.le_of_lt hp) (Nat.le_of_lt hp) (Nat.le_refl _) fun p'' g1 g2 hd' => by have := C.dst hp' g2 hd hd'; omega]
      refine D.slots t x hx fun p'' hp'' hd' => ?_
      rw [← C.dst hp' hp'' hd hd']
      exact C.before D hmax hp hedge h1 h2
    · rw [C.stay (t := t) (Nat.zero_le _) (Nat.zero_le p) (Nat.le_of_lt hp) fun p'' _ g2 hd' => by have := C.dst hp' (Nat.lt_trans g2 hp) hd hd'; omega]
      refine D.early t x hx fun p'' hp'' hd' => ?_
      rw [← C.dst hp' hp'' hd hd']
      rcases h2 with rfl | h2
      · exact hun
      · cases hl : listed.getD (pi.getD p' 0) false with
        | false => rfl
        | true =>
          have hcl : ∀ k, Nat.testBit (ent p').anc k = true → listed.getD k false = true := by
            intro k hk
            rw [(C.ej hp').2.2.2.1] at hk
            exact anc_closed (D := fun k => listed.getD k false = true) (fun i o ho hi => D.closed i o (by simpa using ho) hi) _ _ (C.atL hp') (D.closed _ _ (C.at hp') hl) k hk
          have := hcl _ h2
          rw [this] at hun; cases hun
  · rw [← C.stay (t := t) (Nat.le_of_lt hp) (Nat.le_of_lt hp) (Nat.le_refl _) fun p'' _ g2 hd' => hw ⟨p'', g2, hd'⟩]
    exact D.slots t x hx fun p'' hp'' hd' => absurd ⟨p'', hp'', hd'⟩ hw
theorem Cx.masked (D : DInv T ops pi st op keep z E0 listed q blk E a) (hmax : q < pi.length → chainy (op q).op = true ∧ listed.getD (pi.getD q 0) false = false) {p : Nat} (hp : p < pi.length)
    (hun : listed.getD (pi.getD p 0) false = false) (hedge : ∀ e ∈ (op p).after, Region.binds .any e = true → listed.getD e.on false = true) : Slots E (maskA (opTmps (op p).op) 0 (st p).tmps) a.tmps := by
  refine ⟨by rw [maskA_len, C.len (Nat.le_of_lt hp), D.len, D.size], fun t x hx => ?_⟩
  rw [maskA_get, Nat.zero_add]
  cases hm : memN t (opTmps (op p).op) with
  | false => exact trivial
  | true => exact C.slotsAt D hmax hp hun hedge (.inl (memN_iff.1 hm)) hx
theorem Cx.wants (D : DInv T ops pi st op keep z E0 listed q blk E a) (hmax : q < pi.length → chainy (op q).op = true ∧ listed.getD (pi.getD q 0) false = false) {p : Nat} (hp : p < pi.length)
    (hun : listed.getD (pi.getD p 0) false = false) (hedge : ∀ e ∈ (op p).after, Region.binds .any e = true → listed.getD e.on false = true) {b : Bool} (hw : wantedA ops.toList (st p) (op p) = some b) : Region.wanted (op p) (yielded ops a.tmps) = b := by
  unfold wantedA at hw
  unfold Region.wanted
  split at hw
  · rename_i hg; rw [hg]; cases hw; rfl
  · rename_i g want hg
    rw [hg]
    split at hw
    · cases hw
    · rename_i d hd
      have hgt : d ∈ guardTmp ops.toList (op p) := by simp [guardTmp, hg, hd]
      have hd' : (ops[g]?).bind (·.dst) = some d := by rw [dstOf_eq] at hd; simpa using hd
      have hlen : ∀ v, getA (st p).tmps d = v → v ≠ .top → ∃ x, a.tmps[d]? = some x := by
        intro v hv hne
        rcases Nat.lt_or_ge d a.tmps.size with h | h
        · exact ⟨_, Array.getElem?_eq_getElem h⟩
        · refine absurd ?_ hne
          rw [← hv]
          exact getA_out (by rw [C.len (Nat.le_of_lt hp), D.len, ← D.size]; exact h)
      split at hw
      · rename_i bb hbb
        cases hw
        obtain ⟨x, hx⟩ := hlen _ hbb (by simp)
        have hr := C.slotsAt D hmax hp hun hedge (.inr hgt) hx
        rw [hbb] at hr
        have := hr.bool_inv
        subst this
        simp [yielded, hd', hx]
      · rename_i l hl
        cases hw
        obtain ⟨x, hx⟩ := hlen _ hl (by simp)
        have hr := C.slotsAt D hmax hp hun hedge (.inr hgt) hx
        rw [hl] at hr
        obtain ⟨vs, rfl, _⟩ := hr
        simp [yielded, hd', hx]
      · cases hw

def Nxt (T : Tab) (ops : Array Oper) (pi : List Nat) (st : Nat → St) (op : Nat → Oper) (keep : Nat → Prop) (z : Nat) (E0 : Env) (listed : Array Bool) (a : Act) (w : World) : Prop :=
  ∃ q blk E, E.w = w ∧ DInv T ops pi st op keep z E0 listed q blk E a ∧ (q < pi.length → chainy (op q).op = true ∧ listed.getD (pi.getD q 0) false = false)

theorem Cx.nxt (D : DInv T ops pi st op keep z E0 listed q blk E a) : Nxt T ops pi st op keep z E0 listed a E.w := C.adv _ rfl D

/-- one more -/
theorem Cx.one {Q : Exit → Act → World → Prop} (D : DInv T ops pi st op keep z E0 listed q blk E a) (hmax : q < pi.length → chainy (op q).op = true ∧ listed.getD (pi.getD q 0) false = false) {p : Nat} (hp : p < pi.length)
    (hun : listed.getD (pi.getD p 0) false = false) (hedge : ∀ e ∈ (op p).after, Region.binds .any e = true → listed.getD e.on false = true) :
    wpOp P ops Q (pi.getD p 0) (Nxt T ops pi st op keep z E0 (listed.setIfInBounds (pi.getD p 0) true)) a E.w := by
  have hq : chainy (op p).op = true → isAlloc (op p) = false → p = q := by
    intro hc ha
    rcases Nat.lt_trichotomy p q with h | h | h
    · have := D.done p h hc; rw [this] at hun; cases hun
    · exact h
    · obtain ⟨hcq, huq⟩ := hmax (Nat.lt_trans h hp)
      rcases (C.pair h hp).2.1 with hb | hb
      · have := (C.before D hmax hp hedge h hb).1
        rw [this] at huq; cases huq
      · rw [hcq, hc] at hb
        simp only [ha] at hb
        cases hb
  have hpq : q ≤ p ∨ chainy (op p).op = false := by
    rcases Nat.lt_or_ge p q with h | h
    · right
      cases hc : chainy (op p).op with
      | false => rfl
      | true => have := D.done p h hc; rw [this] at hun; cases hun
    · exact .inl h
  unfold wpOp
  rw [C.at hp]
  simp only
  have hout := C.tra.out p hp
  generalize hv : val p = v at hout
  generalize hob : (st (p + 1)).objs = ob at hout
  generalize hnx : (st (p + 1)).next = nx at hout
  cases hout with
  | skip hw =>
    rw [C.wants D hmax hp hun hedge hw]
    simp only [Bool.false_eq_true, if_false]
    have hna : isAlloc (op p) = false := by
      cases ha : isAlloc (op p) with
      | false => rfl
      | true =>
        obtain ⟨_, hg, _⟩ := alloc_chain ha
        unfold wantedA at hw
        rw [hg] at hw; cases hw
    have hx : SRep E (val p) undef := by rw [hv]; exact ⟨[], rfl, rfl⟩
    cases hc : chainy (op p).op with
    | false => exact C.nxt (C.mark D hp hun hedge (Later.refl _ _) D.mems D.next (.inl ⟨rfl, hc⟩) hx)
    | true =>
      have e := hq hc hna
      subst e
      exact C.nxt (C.mark D hp hun hedge (q' := p + 1) (Later.refl _ _) (by rw [hob]; exact D.mems) (by rw [hnx]; exact D.next) (.inr ⟨rfl, rfl, hna⟩) hx)
  | pure hw hc hg =>
    rw [C.wants D hmax hp hun hedge hw]
    simp only [if_true]
    refine .inl ?_
    have hsame : pickO (st p).objs (readsOf (st p) (op p).op) = pickO (st q).objs (readsOf (st p) (op p).op) := by
      refine pickO_congr fun id hid => ?_
      rcases Nat.le_total p q with h | h
      · refine (C.same (Nat.le_of_lt hp) h D.le (fun p' h1 h2 hc' => ?_) id hid).symm
        have hne : p ≠ p' := fun e => by rw [← e, hc] at hc'; cases hc'
        have hlt : p < p' := Nat.lt_of_le_of_ne h1 hne
        have hpn : p' < pi.length := Nat.lt_of_lt_of_le h2 D.le
        rcases (C.pair hlt hpn).2.1 with hb | hb
        · have hl' := D.done p' h2 hc'
          have hcl : ∀ k, Nat.testBit (ent p').anc k = true → listed.getD k false = true := by
            intro k hk
            rw [(C.ej hpn).2.2.2.1] at hk
            exact anc_closed (D := fun k => listed.getD k false = true) (fun i o ho hi => D.closed i o (by simpa using ho) hi) _ _ (C.atL hpn) (D.closed _ _ (C.at hpn) hl') k hk
          have := hcl _ hb
          rw [this] at hun; cases hun
        · rw [hc, hc'] at hb; exact hb
      · refine C.same D.le h (Nat.le_of_lt hp) (fun p' h1 h2 hc' => ?_) id hid
        rcases (C.pair h2 hp).2.1 with hb | hb
        · obtain ⟨g1, g2⟩ := C.before D hmax hp hedge h2 hb
          obtain ⟨_, b, g3⟩ := D.ahead p' h1 (Nat.lt_trans h2 hp) hc' g1
          rw [g2] at g3; cases g3
        · rw [hc, hc'] at hb; exact hb
    have hm : Mems E (fun b => keep b ∨ ∃ p, blk p = some b) (viewR (st p) (op p)).objs := by
      show Mems E _ (pickO (st p).objs (readsOf (st p) (op p).op))
      rw [hsame]
      exact mems_less D.mems fun j oc h => pickO_look h
    obtain ⟨x, hrun, hr⟩ := pure_sound C.tab (S := viewR (st p) (op p)) (C.masked D hmax hp hun hedge) hm (op p) hg
    unfold Oper.wp
    rw [hrun, Oper.upon_value]
    exact C.nxt (C.mark D hp hun hedge (Later.refl _ _) D.mems D.next (.inl ⟨rfl, hc⟩) (by rw [hv]; exact hr))
  | chain hw hc hg =>
    rw [C.wants D hmax hp hun hedge hw]
    simp only [if_true]
    refine .inl ?_
    cases ha : isAlloc (op p) with
    | false =>
      have e := hq hc ha
      subst e
      refine opV_sound (keep := fun b => keep b ∨ ∃ p, blk p = some b) C.tab C.hok hg (C.masked D hmax hp hun hedge) D.mems D.next fun v' x objs n E' hL hM hN hv' hk => ?_
      cases hk
      exact C.nxt (C.mark D hp hun hedge (q' := p + 1) hL (by rw [hob]; exact hM) (by rw [hnx]; exact hN) (.inr ⟨rfl, rfl, ha⟩) (by rw [hv]; exact hv'))
    | true =>
      have hqp : q ≤ p := hpq.resolve_right (by rw [hc]; simp)
      obtain ⟨_, hgd, t, d, ho, hd⟩ := alloc_chain ha
      obtain ⟨t', i, ho', hi, hval, _, _⟩ := C.alloc hp ha
      rw [ho] at ho'; cases ho'
      obtain ⟨inf, h1, h2, h3, zz, h4, h5, _⟩ := (C.tab t i hi).info
      have hrun : (execOp a.eval (op p)).run P E.w = .ok (.value (.pointer (some ⟨E.w.heap.size, 0, none⟩))) (E.w.alloc (.cells zz.cells t)) := by
        have : (Instr.alloc t true (.tuple #[])).run P E.w = .ok (.pointer (some ⟨E.w.heap.size, 0, none⟩)) (E.w.alloc (.cells zz.cells t)) := by
          simp [Instr.alloc, zeroValue, run_info h1, h4, newVar, newRow]
        simp only [execOp, ho]
        exact run_v this
      unfold Oper.wp
      rw [hrun, Oper.upon_value]
      let b0 := E.w.heap.size
      let E1 : Env := { E with w := E.w.alloc (.cells zz.cells t) }
      let blk' : Nat → Option Nat := fun p' => if p' = p then some b0 else blk p'
      have hheap : E1.w.heap = E.w.heap.push (.cells zz.cells t) := rfl
      have hkb : ∀ b, (keep b ∨ ∃ p, blk p = some b) → b < b0 := D.mems.kb
      have hnone : blk p = none := by
        cases hb : blk p with
        | none => rfl
        | some b => have := (D.pend p b hb).2.2.1; rw [this] at hun; cases hun
      have hL : Later (fun b => keep b ∨ ∃ p, blk p = some b) E E1 := ⟨fun _ h => h, fun _ h => .inl h, fun _ _ => rfl, Nat.le_refl _, by rw [hheap]; simp,
        fun b hb => by rw [hheap]; exact push_old (D.mems.rob b hb), fun b hb => by rw [hheap]; exact push_old (hkb b hb), ⟨rfl, rfl⟩⟩
      have hM : Mems E1 (fun b => keep b ∨ ∃ p, blk' p = some b) (st q).objs := by
        have hm := D.mems
        refine ⟨fun id oc h => ⟨(hm.rep _ _ h).1, ORep.later hL (fun b hb => by rw [hheap]; exact push_old (live_lt (hm.rep _ _ h).2 hb)) (hm.rep _ _ h).2⟩, fun id oc b h hb => ?_, hm.inj, fun b hb => ?_, fun b hb => ?_⟩
        · refine ⟨(hm.sep _ _ _ h hb).1, fun hk => ?_⟩
          rcases hk with hk | ⟨p', hk⟩
          · exact (hm.sep _ _ _ h hb).2 (.inl hk)
          · by_cases hpp : p' = p
            · have hk : some b0 = some b := by simpa only [blk', if_pos hpp] using hk
              cases hk
              exact absurd (live_lt (hm.rep _ _ h).2 hb) (Nat.lt_irrefl _)
            · have hk : blk p' = some b := by simpa only [blk', if_neg hpp] using hk
              exact (hm.sep _ _ _ h hb).2 (.inr ⟨p', hk⟩)
        · rw [hheap, Array.size_push]; exact Nat.lt_succ_of_lt (hm.rob b hb)
        · rw [hheap, Array.size_push]
          rcases hb with hb | ⟨p', hb⟩
          · exact Nat.lt_succ_of_lt (hkb b (.inl hb))
          · by_cases hpp : p' = p
            · have hb : some b0 = some b := by simpa only [blk', if_pos hpp] using hb
              cases hb
              exact Nat.lt_succ_self _
            · have hb : blk p' = some b := by simpa only [blk', if_neg hpp] using hb
              exact Nat.lt_succ_of_lt (hkb b (.inr ⟨p', hb⟩))
      have hin : pi.getD p 0 < listed.size := by rw [D.lsize]; exact (Array.getElem?_eq_some_iff.1 (C.at hp)).1
      have hself : (listed.setIfInBounds (pi.getD p 0) true).getD (pi.getD p 0) false = true := by
        generalize pi.getD p 0 = i at hin ⊢
        simp [hin]
      have hset : ∀ p', p' < pi.length → (listed.setIfInBounds (pi.getD p 0) true).getD (pi.getD p' 0) false = true → p' = p ∨ listed.getD (pi.getD p' 0) false = true := by
        intro p' hp' h
        by_cases he : p' = p
        · exact .inl he
        · rw [getD_set_ne false (fun e => he (C.inj hp hp' e).symm)] at h; exact .inr h
      have htm : ∀ u y, (a.put (op p).dst (.pointer (some ⟨b0, 0, none⟩))).tmps[u]? = some y → (d = u ∧ y = .pointer (some ⟨b0, 0, none⟩)) ∨ (d ≠ u ∧ a.tmps[u]? = some y) := by
        intro u y hy
        rw [hd] at hy
        simp only [Act.put, Array.getElem?_setIfInBounds] at hy
        by_cases hdt : d = u
        · rw [if_pos hdt] at hy
          by_cases hlt : d < a.tmps.size
          · rw [if_pos hlt] at hy; cases hy
            exact .inl ⟨hdt, rfl⟩
          · rw [if_neg hlt] at hy; cases hy
        · rw [if_neg hdt] at hy
          exact .inr ⟨hdt, hy⟩
      have hnr : ∀ b, E.ro b → b ≠ b0 := fun b hb e => absurd (D.mems.rob b hb) (by rw [e]; exact Nat.lt_irrefl _)
      have D' : DInv T ops pi st op keep z E0 (listed.setIfInBounds (pi.getD p 0) true) q blk' E1 (a.put (op p).dst (.pointer (some ⟨b0, 0, none⟩))) := by
        refine ⟨D.le, fun p' hp' hc' => getD_set_true (D.done p' hp' hc'), fun p' h1 h2 hc' hl' => ?_, fun p' b hb => ?_, fun p1 p2 b h h' => ?_, ?_, D.len, ?_, D.next, hM, fun u y hy hcond => ?_, fun u y hy hcond => ?_, D.later.trans (hL.weaker fun _ h => .inl h), fun k o hk hl' e he hb => ?_, ?_⟩
        · rcases hset p' h2 hl' with rfl | hl'
          · exact ⟨ha, b0, if_pos rfl⟩
          · obtain ⟨g1, b, g2⟩ := D.ahead p' h1 h2 hc' hl'
            refine ⟨g1, b, ?_⟩
            have : p' ≠ p := fun e => by rw [e, hnone] at g2; cases g2
            simpa only [blk', if_neg this] using g2
        · by_cases hpp : p' = p
          · have hb : some b0 = some b := by simpa only [blk', if_pos hpp] using hb
            cases hb
            subst hpp
            refine ⟨hqp, hp, hself, ha, d, t, i, zz.cells, t, ho, hd, hi, ?_, h5 E1, fun hk => absurd (hkb _ (.inl hk)) (Nat.lt_irrefl _), fun hr => hnr _ hr rfl, fun y hy => ?_⟩
            · rw [hheap]; simp [b0]
            · rcases htm d y hy with ⟨_, h⟩ | ⟨h, _⟩
              · exact h
              · exact absurd rfl h
          · have hb : blk p' = some b := by simpa only [blk', if_neg hpp] using hb
            obtain ⟨g1, g2, g3, g4, d2, t2, i2, vs2, e2, g5, g6, g7, g8, g9, g10, g11, g12⟩ := D.pend p' b hb
            refine ⟨g1, g2, getD_set_true g3, g4, d2, t2, i2, vs2, e2, g5, g6, g7, (hL.heapKeep b (.inr ⟨p', hb⟩)).trans g8, CRepL.later hL g9, g10, g11, fun y hy => ?_⟩
            rcases htm d2 y hy with ⟨h, _⟩ | ⟨_, h⟩
            · exact absurd (C.dst g2 hp g6 (by rw [h] at hd; exact hd)) hpp
            · exact g12 y h
        · by_cases h1 : p1 = p <;> by_cases h2 : p2 = p
          · rw [h1, h2]
          · have h : some b0 = some b := by simpa only [blk', if_pos h1] using h
            cases h
            have h' : blk p2 = some b0 := by simpa only [blk', if_neg h2] using h'
            exact absurd (hkb _ (.inr ⟨p2, h'⟩)) (Nat.lt_irrefl _)
          · have h' : some b0 = some b := by simpa only [blk', if_pos h2] using h'
            cases h'
            have h : blk p1 = some b0 := by simpa only [blk', if_neg h1] using h
            exact absurd (hkb _ (.inr ⟨p1, h⟩)) (Nat.lt_irrefl _)
          · have h : blk p1 = some b := by simpa only [blk', if_neg h1] using h
            have h' : blk p2 = some b := by simpa only [blk', if_neg h2] using h'
            exact D.inj _ _ _ h h'
        · rw [hd]; simp only [Act.put, Array.size_setIfInBounds]; exact D.size
        · rw [hd]; exact D.defers
        · rcases htm u y hy with ⟨h, _⟩ | ⟨h, hy'⟩
          · have := (hcond p hp (by rw [hd, h])).2
            simp [blk'] at this
          · refine SRep.later hL (D.slots u y hy' fun p' hp' hd' => ?_)
            obtain ⟨c1, c2⟩ := hcond p' hp' hd'
            have hpp : p' ≠ p := fun e => h (by rw [e, hd] at hd'; cases hd'; rfl)
            exact ⟨(hset p' hp' c1).resolve_left hpp, by simpa only [blk', if_neg hpp] using c2⟩
        · rcases htm u y hy with ⟨h, _⟩ | ⟨h, hy'⟩
          · have := hcond p hp (by rw [hd, h])
            rw [hself] at this; cases this
          · refine SRep.later hL (D.early u y hy' fun p' hp' hd' => ?_)
            have h := hcond p' hp' hd'
            cases hl : listed.getD (pi.getD p' 0) false with
            | false => rfl
            | true => rw [getD_set_true hl] at h; cases h
        · by_cases hij : pi.getD p 0 = k
          · subst hij
            rw [C.at hp] at hk; cases hk
            exact getD_set_true (hedge e he hb)
          · rw [getD_set_ne false hij] at hl'
            exact getD_set_true (D.closed k o hk hl' e he hb)
        · rw [Array.size_setIfInBounds]; exact D.lsize
      exact C.nxt D'

theorem Cx.all {Q : Exit → Act → World → Prop} (hQ : ∀ a' E', Rel keep z (st pi.length) a' E' → Later keep E0 E' → Q .normal a' E'.w) : ∀ (fuel : Nat) (listed : Array Bool) (a : Act) (w : World),
    (List.range ops.size).countP (fun i => !listed.getD i false) ≤ fuel → Nxt T ops pi st op keep z E0 listed a w → wpAny P .any ops Q fuel listed a w := by
  have hr := C.reg
  simp only [regOK, Bool.and_eq_true] at hr
  have done : ∀ (listed : Array Bool) (a : Act) (w : World), Nxt T ops pi st op keep z E0 listed a w → Region.ready .any ops listed = [] → Q .normal a w := by
    intro listed a w hn he
    obtain ⟨q, blk, E, rfl, D, hmax⟩ := hn
    have hall : ∀ i, i < ops.size → listed.getD i false = true := by
      intro i
      induction i using Nat.strongRecOn with
      | ind i ih =>
        intro hi
        cases hl : listed.getD i false with
        | true => rfl
        | false =>
          have : i ∈ Region.ready .any ops listed := by
            rw [mem_ready]
            refine ⟨?_, _, Array.getElem?_eq_getElem hi, fun e he hb => ?_⟩
            · have hin : i < listed.size := by rw [D.lsize]; exact hi
              simp [hin] at hl ⊢
              exact hl
            · have := backs_spec _ 0 hr.1.2 i _ (by simp [hi]) e he hb
              exact ih e.on (by omega) (by omega)
          rw [he] at this; cases this
    have hp : ∀ p, p < pi.length → listed.getD (pi.getD p 0) false = true := fun p hp => hall _ (Array.getElem?_eq_some_iff.1 (C.at hp)).1
    have hq : q = pi.length := by
      rcases Nat.lt_or_ge q pi.length with h | h
      · have := (hmax h).2; rw [hp q h] at this; cases this
      · exact Nat.le_antisymm D.le h
    subst hq
    have hb : ∀ p, blk p = none := fun p => by
      cases hb : blk p with
      | none => rfl
      | some b => obtain ⟨h1, h2, _⟩ := D.pend p b hb; omega
    exact hQ a E ⟨D.size, ⟨by rw [C.len (Nat.le_refl _), D.len, D.size], fun t x hx => D.slots t x hx fun p h _ => ⟨hp p h, hb p⟩⟩, D.mems.weaker fun _ h => .inl h, D.next, D.defers⟩ D.later
  intro fuel
  induction fuel with
  | zero =>
    intro listed a w hc hn
    have he : Region.ready .any ops listed = [] := by
      cases hrd : Region.ready .any ops listed with
      | nil => rfl
      | cons i r =>
        have hi : i ∈ Region.ready .any ops listed := by rw [hrd]; exact List.mem_cons_self
        rw [mem_ready] at hi
        obtain ⟨h0, o, ho, _⟩ := hi
        have hlt := (Array.getElem?_eq_some_iff.1 ho).1
        obtain ⟨q, blk, E, rfl, D, hmax⟩ := hn
        have : 0 < (List.range ops.size).countP (fun i => !listed.getD i false) := by
          rw [List.countP_pos_iff]
          refine ⟨i, List.mem_range.2 hlt, ?_⟩
          have hin : i < listed.size := by rw [D.lsize]; exact hlt
          simp [hin] at h0 ⊢
          exact h0
        omega
    exact ⟨he, done listed a w hn he⟩
  | succ fuel ih =>
    intro listed a w hc hn
    refine ⟨done listed a w hn, fun i hi => ?_⟩
    rw [mem_ready] at hi
    obtain ⟨h0, o, ho, hedge⟩ := hi
    have hlt := (Array.getElem?_eq_some_iff.1 ho).1
    obtain ⟨p, hp, rfl⟩ := C.pos hlt
    rw [C.at hp] at ho; cases ho
    obtain ⟨q, blk, E, rfl, D, hmax⟩ := hn
    have hin : pi.getD p 0 < listed.size := by rw [D.lsize]; exact hlt
    have hun : listed.getD (pi.getD p 0) false = false := by
      generalize pi.getD p 0 = i at h0 hin ⊢
      simp [hin] at h0 ⊢
      exact h0
    refine wpOp_mono (fun a' w' h' => ih _ a' w' ?_ h') (C.one D hmax hp hun hedge)
    have key : ∀ (l : List Nat) (i : Nat), l.countP (fun j => !(listed.setIfInBounds i true).getD j false) ≤ l.countP (fun j => !listed.getD j false) := fun l i =>
      List.countP_mono_left fun j _ hj => by
        simp only [Bool.not_eq_true'] at hj ⊢
        cases hl : listed.getD j false with
        | false => rfl
        | true => rw [getD_set_true hl] at hj; cases hj
    have key2 : ∀ (l : List Nat), pi.getD p 0 ∈ l → l.countP (fun j => !(listed.setIfInBounds (pi.getD p 0) true).getD j false) < l.countP (fun j => !listed.getD j false) := by
      intro l
      induction l with
      | nil => intro h; cases h
      | cons j l ihl =>
        intro h
        rw [List.countP_cons, List.countP_cons]
        have hk := key l (pi.getD p 0)
        by_cases hj : pi.getD p 0 = j
        · subst hj
          have : (listed.setIfInBounds (pi.getD p 0) true).getD (pi.getD p 0) false = true := by
            generalize pi.getD p 0 = i at hin ⊢
            simp [hin]
          rw [this, hun]
          simp only [Bool.not_true, Bool.false_eq_true, if_false, Bool.not_false, if_true]
          omega
        · have := ihl ((List.mem_cons.1 h).resolve_left hj)
          rw [getD_set_ne false hj]
          omega
    have := key2 _ (List.mem_range.2 hlt)
    omega
end

section
variable {P : Program} {T : Tab} (hT : TabOK P T) (hP : P.follows .mixedOrders = true) {H : Handler} (hH : HOK P H) {keep : Nat → Prop} {z : Nat}
include hT hP hH
theorem draw_sound {R : Type} {id : Nat} {ops : Array Oper} {pi : List Nat} {S : St} {K : St → Option R} {r : R} {a : Act} {E : Env} {Q : Exit → Act → World → Prop} (h : drawK T H ops pi S K = some r) (hR : Rel keep z S a E)
    (hK : ∀ S' a' E', Rel keep z S' a' E' → Later keep E E' → K S' = some r → Q .normal a' E'.w) : (Code.region id ops true).wp P Q a E.w := by
  unfold drawK at h
  rcases bif_some h with ⟨hreg, h⟩ | ⟨_, h⟩
  · obtain ⟨st, val, op, ent, ht, h0, hk⟩ := regK_trace hH.nat pi [] 0 S h
    have C : Cx P T H ops pi st val op ent := ⟨hT, hH, hreg, ht⟩
    have hfalse : ∀ i, (Array.replicate ops.size false).getD i false = false := fun i => by
      rw [Array.getD_eq_getD_getElem?, Array.getElem?_replicate]
      split <;> rfl
    refine wp_region_any hP ?_
    let E1 : Env := { E with w := { E.w with drawn := E.w.drawn + 1 } }
    have hL : Later keep E E1 := ⟨fun _ h => h, fun _ h => .inl h, fun _ _ => rfl, Nat.le_refl _, Nat.le_refl _, fun _ _ => rfl, fun _ _ => rfl, Quiet.refl _⟩
    have hM : Mems E1 keep S.objs := ⟨fun id oc h => ⟨(hR.mems.rep _ _ h).1, ORep.later hL (fun _ _ => rfl) (hR.mems.rep _ _ h).2⟩, hR.mems.sep, hR.mems.inj, hR.mems.rob, hR.mems.kb⟩
    refine C.all (keep := keep) (z := z) (E0 := E) (fun a' E' h1 h2 => hK _ a' E' h1 h2 hk) _ _ _ _ (Nat.le_trans List.countP_le_length (by simp)) ?_
    refine C.nxt (E := E1) (q := 0) (blk := fun _ => none) ⟨Nat.zero_le _, fun p hp => absurd hp (Nat.not_lt_zero _), fun p _ _ _ hl => ?_, fun p b hb => (nomatch hb), fun p p' b hb => (nomatch hb), hR.size, by rw [h0, hR.slots.1, hR.size], hR.defers, by rw [h0]; exact hR.next, ?_, fun t x hx hcond => ?_, fun t x hx hcond => by rw [h0]; exact SRep.later hL (hR.slots.2 t x hx), hL, fun i o ho hl => ?_, by simp⟩
    · rw [hfalse] at hl; cases hl
    · rw [h0]; exact hM.weaker fun b hb => hb.elim (fun h => h) fun ⟨_, h⟩ => (nomatch h)
    · have hst : getA (st pi.length).tmps t = getA (st 0).tmps t := C.stay (Nat.zero_le _) (Nat.zero_le _) (Nat.le_refl _) fun p' _ hp' hd => by
        have := (hcond p' hp' hd).1; rw [hfalse] at this; cases this
      rw [hst, h0]
      exact SRep.later hL (hR.slots.2 t x hx)
    · rw [hfalse] at hl; cases hl
  · cases h
end
end Go.Rx
/- Code: soundness. -/
namespace Go.Rx
section
variable {P : Program} {T : Tab} (hT : TabOK P T) {H : Handler} (hH : HOK P H) {keep : Nat → Prop} {z : Nat}

theorem fresh_get : ∀ (l : List AV) (i : Nat), getA (mapA (fun _ => AV.top) l) i = .top
  | [], i => by cases i <;> rfl
  | _ :: l, 0 => rfl
  | _ :: l, i + 1 => fresh_get l i
theorem mapA_length {α : Type} (f : α → AV) : ∀ (l : List α), (mapA f l).length = l.length
  | [] => rfl
  | _ :: l => by simp only [mapA, List.length_cons, mapA_length f l]

theorem pack_sound {base S' : St} {sp : Spec} {p : PT sp} {a a' : Act} {E E' : Env} (hR : Rel keep z base a E) (hR' : Rel keep z S' a' E') (hL : Later keep E E') (h : pack base S'.tmps sp S'.objs = some p) :
    ∃ E'', E''.w = E'.w ∧ Later keep E E'' ∧ Rel keep z (unpack base sp p (fresh base)) a' E'' := by
  have hbN : base.next = E.N := hR.next.symm
  have hle : base.next ≤ E'.N := by rw [hbN]; exact hL.N
  have T0 : Two base.next keep E' { E' with N := base.next } S'.objs (fresh base).objs :=
    ⟨rfl, rfl, fun _ _ => rfl, Nat.le_refl _, hR'.mems,
      ⟨fun id oc h => (nomatch h), fun id oc b h => (nomatch h), fun id id' oc oc' b h => (nomatch h), hR'.mems.rob, hR'.mems.kb⟩,
      fun b _ hx => by obtain ⟨id, oc, h, _⟩ := hx; cases h⟩
  have hsl : Slots { E' with N := base.next } (fresh base).tmps a'.tmps := by
    refine ⟨?_, fun i v hv => ?_⟩
    · show (mapA (fun _ => AV.top) base.tmps).length = _
      rw [mapA_length, hR.slots.1, hR.size, hR'.size]
    · show SRep _ (getA (mapA (fun _ => AV.top) base.tmps) i) v
      rw [fresh_get]; exact trivial
  obtain ⟨B', hw, hLB, hM, hS, hN⟩ := repack (base := base) sp T0 rfl hR'.slots hsl h
  refine ⟨B', hw, ⟨fun b hb => hLB.ro b (hL.ro b hb), fun b hb => (hLB.roN b hb).elim (hL.roN b) .inr, fun id hi => ?_, ?_, ?_, fun b hb => ?_, fun b hb => ?_, by rw [hw]; exact hL.out⟩, ⟨hR'.size, hS, hM, hN, hR'.defers⟩⟩
  · rw [hLB.M id (by show id < base.next; rw [hbN]; exact hi)]; exact hL.M id hi
  · have := hLB.N
    rw [← hbN]; exact this
  · rw [hw]; exact hL.size
  · rw [hw]; exact hL.heapRo b hb
  · rw [hw]; exact hL.heapKeep b hb

theorem packE_sound {R : Type} {base S' : St} {a a' : Act} {E E' : Env} (hR : Rel keep z base a E) (hR' : Rel keep z S' a' E') (hL : Later keep E E') {K : Ex → St → Option R} {e : Ex} : ∀ (ex : Exits) {j : JT ex},
    packE base ex e S' = some j → ∃ E'' S'', E''.w = E'.w ∧ Later keep E E'' ∧ Rel keep z S'' a' E'' ∧ unpackE base ex j K = K e S''
  | [], j, h => by cases h
  | [x], j, h => by
    simp only [packE] at h
    split at h
    · rename_i he
      obtain ⟨E'', h1, h2, h3⟩ := pack_sound hR hR' hL h
      exact ⟨E'', _, h1, h2, h3, by rw [unpackE, he]⟩
    · cases h
  | x :: y :: r, j, h => by
    simp only [packE] at h
    split at h
    · rename_i he
      obtain ⟨p, hp, rfl⟩ := oM_some h
      obtain ⟨E'', h1, h2, h3⟩ := pack_sound hR hR' hL hp
      exact ⟨E'', _, h1, h2, h3, by rw [unpackE, he]⟩
    · obtain ⟨p, hp, rfl⟩ := oM_some h
      obtain ⟨E'', S'', h1, h2, h3, h4⟩ := packE_sound hR hR' hL (y :: r) hp
      exact ⟨E'', S'', h1, h2, h3, by rw [unpackE]; exact h4⟩

theorem joinK_sound {R : Type} {ex : Option Exits} {S : St} {K : Ex → St → Option R} {r : R} {run : ∀ {R' : Type}, (Ex → St → Option R') → Option R'} {c : Code} {a : Act} {E : Env} {Q : Exit → Act → World → Prop}
    (h : joinK ex S K run = some r) (hR : Rel keep z S a E)
    (hrun : ∀ {R' : Type} (K' : Ex → St → Option R') (r' : R'), run K' = some r' → (∀ e S' a' E', Rel keep z S' a' E' → Later keep E E' → K' e S' = some r' → Q e.toExit a' E'.w) → c.wp P Q a E.w)
    (hK : ∀ e S' a' E', Rel keep z S' a' E' → Later keep E E' → K e S' = some r → Q e.toExit a' E'.w) : c.wp P Q a E.w := by
  cases ex with
  | none => exact hrun K r h hK
  | some ex =>
    simp only [joinK] at h
    rw [Option.bind_eq_some_iff] at h
    obtain ⟨j, hj, h⟩ := h
    refine hrun _ j hj fun e S' a' E' hR' hL' hp => ?_
    obtain ⟨E'', S'', hw, hL, hR'', he⟩ := packE_sound (K := K) hR hR' hL' ex hp
    rw [← hw]
    exact hK e S'' a' E'' hR'' hL (by rw [← he]; exact h)

theorem iter_some {X R : Type} {f : X → Option (X ⊕ R)} {x : X} {r : R} (h : iter f x = some r) : ∃ n, iterN f n x = some r := by
  unfold iter at h
  split at h
  · rename_i hex
    cases h
    exact ⟨_, Classical.choose_spec (Classical.choose_spec hex)⟩
  · cases h

variable (hP : P.follows .mixedOrders = true)
include hT hH hP
theorem code_sound : ∀ (c : Code) (an : Ann) {R : Type} {S : St} {K : Ex → St → Option R} {r : R} {a : Act} {E : Env} {Q : Exit → Act → World → Prop}, codeK T H c an S K = some r → Rel keep z S a E →
    (∀ e S' a' E', Rel keep z S' a' E' → Later keep E E' → K e S' = some r → Q e.toExit a' E'.w) → c.wp P Q a E.w := by
  intro c
  induction c with
  | skip =>
    intro an R S K r a E Q h hR hK
    exact joinK_sound (by simpa only [codeK] using h) hR (fun K' r' h' hK' => wp_skip (hK' .normal S a E hR (Later.refl _ _) h')) hK
  | label l =>
    intro an R S K r a E Q h hR hK
    exact joinK_sound (by simpa only [codeK] using h) hR (fun K' r' h' hK' => wp_label (hK' .normal S a E hR (Later.refl _ _) h')) hK
  | exit id =>
    intro an R S K r a E Q h hR hK
    exact joinK_sound (by simpa only [codeK] using h) hR (fun K' r' h' hK' => wp_exit (hK' (.exit id) S a E hR (Later.refl _ _) h')) hK
  | ret =>
    intro an R S K r a E Q h hR hK
    exact joinK_sound (by simpa only [codeK] using h) hR (fun K' r' h' hK' => wp_ret (hK' .ret S a E hR (Later.refl _ _) h')) hK
  | region id ops draw =>
    intro an R S K r a E Q h hR hK
    simp only [codeK] at h
    refine joinK_sound h hR (fun K' r' h' hK' => ?_) hK
    cases draw with
    | true =>
      simp only at h'
      split at h'
      · exact draw_sound hT hP hH h' hR fun S' a' E' h1 h2 h3 => hK' .normal S' a' E' h1 h2 h3
      · cases h'
    | false => exact wp_region_list (opsK_sound hT hH ops.toList h' hR fun S' a' E' h1 h2 h3 => hK' .normal S' a' E' h1 h2 h3)
  | seq x y ihx ihy =>
    intro an R S K r a E Q h hR hK
    simp only [codeK] at h
    refine joinK_sound h hR (fun K' r' h' hK' => ?_) hK
    refine wp_seq (ihx _ h' hR fun e S' a' E' h1 h2 h3 => ?_)
    cases e with
    | normal => exact ihy _ h3 h1 fun e S'' a'' E'' h4 h5 h6 => hK' e S'' a'' E'' h4 (h2.trans h5) h6
    | exit id => exact hK' (.exit id) S' a' E' h1 h2 h3
    | ret => exact hK' .ret S' a' E' h1 h2 h3
  | cond c x y ihx ihy =>
    intro an R S K r a E Q h hR hK
    simp only [codeK] at h
    refine joinK_sound h hR (fun K' r' h' hK' => ?_) hK
    split at h'
    · rename_i b hb
      have hv := ev_rep hR.slots c
      rw [hb] at hv
      have hv := hv.bool_inv
      have hlit : ∀ b', b = b' → Rel keep z (setLit S c b') a E := by
        intro b' e
        subst e
        cases c with
        | tmp t => exact (slots_lit hR hb).1
        | const v => exact hR
        | global g => exact hR
        | func f => exact hR
      rcases bif_some h' with ⟨e, h'⟩ | ⟨e, h'⟩
      · subst e
        exact wp_cond_true hv (ihx _ h' (hlit _ rfl) hK')
      · subst e
        exact wp_cond_false hv (ihy _ h' (hlit _ rfl) hK')
    · cases h'
  | block id c ih =>
    intro an R S K r a E Q h hR hK
    simp only [codeK] at h
    refine joinK_sound h hR (fun K' r' h' hK' => ?_) hK
    refine wp_block (ih _ h' hR fun e S' a' E' h1 h2 h3 => ?_)
    cases e with
    | normal => exact hK' .normal S' a' E' h1 h2 h3
    | ret => exact hK' .ret S' a' E' h1 h2 h3
    | exit id' =>
      simp only [Ex.toExit, Exit.inBlock]
      rcases bif_some h3 with ⟨e, h3⟩ | ⟨e, h3⟩
      · have e := Nat.eq_of_beq_eq_true e
        rw [if_pos e]
        exact hK' .normal S' a' E' h1 h2 h3
      · have e : ¬ id' = id := fun e' => by subst e'; simp at e
        rw [if_neg e]
        exact hK' (.exit id') S' a' E' h1 h2 h3
  | loop c ih =>
    intro an R S K r a E Q h hR hK
    simp only [codeK] at h
    refine joinK_sound h hR (fun K' r' h' hK' => ?_) hK
    split at h'
    · rename_i sp ex b hb
      obtain ⟨p0, hp0, h'⟩ := oB_some h'
      rw [Option.bind_eq_some_iff] at h'
      obtain ⟨j, hj, h'⟩ := h'
      obtain ⟨n, hn⟩ := iter_some hj
      obtain ⟨E0, hw0, hL0, hR0⟩ := pack_sound hR hR (Later.refl _ _) hp0
      rw [← hw0]
      refine wp_loop_rounds n ?_
      have key : ∀ (n : Nat) (p0 : PT sp) (a0 : Act) (E0 : Env), Later keep E E0 → Rel keep z (unpack S sp p0 (fresh S)) a0 E0 →
          iterN (fun p => codeK T H c b (unpack S sp p (fresh S)) fun e S' => match e with
            | .normal => oM (pack S S'.tmps sp S'.objs) Sum.inl
            | e => oM (packE S ex e S') Sum.inr) n p0 = some j → Code.rounds P c Q n a0 E0.w := by
        intro n
        induction n with
        | zero => intro p0 a0 E0 _ _ hn; cases hn
        | succ n ihn =>
          intro p0 a0 E0 hL0 hR0 hn
          rw [rounds_succ]
          simp only [iterN] at hn
          split at hn
          · rename_i y hy
            refine ih _ hy hR0 fun e S' a' E' h1 h2 h3 => ?_
            cases e with
            | normal =>
              obtain ⟨p, hp, e⟩ := oM_some h3
              cases e
              obtain ⟨E1, hw1, hL1, hR1⟩ := pack_sound hR h1 (hL0.trans h2) hp
              show Code.rounds P c Q n a' E'.w
              rw [← hw1]
              exact ihn _ _ _ hL1 hR1 hn
            | exit id =>
              obtain ⟨p, hp, e⟩ := oM_some h3
              cases e
            | ret =>
              obtain ⟨p, hp, e⟩ := oM_some h3
              cases e
          · rename_i j' hy
            cases hn
            refine ih _ hy hR0 fun e S' a' E' h1 h2 h3 => ?_
            cases e with
            | normal =>
              obtain ⟨p, hp, e⟩ := oM_some h3
              cases e
            | exit id =>
              obtain ⟨p, hp, e⟩ := oM_some h3
              cases e
              obtain ⟨E'', S'', hw, hL, hR'', he⟩ := packE_sound (K := K') hR h1 (hL0.trans h2) ex hp
              show Q (.exit id) a' E'.w
              rw [← hw]
              exact hK' (.exit id) S'' a' E'' hR'' hL (by rw [← he]; exact h')
            | ret =>
              obtain ⟨p, hp, e⟩ := oM_some h3
              cases e
              obtain ⟨E'', S'', hw, hL, hR'', he⟩ := packE_sound (K := K') hR h1 (hL0.trans h2) ex hp
              show Q .ret a' E'.w
              rw [← hw]
              exact hK' .ret S'' a' E'' hR'' hL (by rw [← he]; exact h')
          · cases hn
      exact key n p0 a E0 hL0 hR0 hn
    · rename_i n b hb
      refine wp_loop_rounds n ?_
      have key : ∀ (n : Nat) (S0 : St) (a0 : Act) (E0 : Env), Later keep E E0 → Rel keep z S0 a0 E0 → rollK (fun S K => codeK T H c b S K) K' n S0 = some r' → Code.rounds P c Q n a0 E0.w := by
        intro n
        induction n with
        | zero => intro S0 a0 E0 _ _ hn; cases hn
        | succ n ihn =>
          intro S0 a0 E0 hL0 hR0 hn
          rw [rounds_succ]
          simp only [rollK] at hn
          refine ih _ hn hR0 fun e S' a' E' h1 h2 h3 => ?_
          cases e with
          | normal => exact ihn S' a' E' (hL0.trans h2) h1 h3
          | exit id => exact hK' (.exit id) S' a' E' h1 (hL0.trans h2) h3
          | ret => exact hK' .ret S' a' E' h1 (hL0.trans h2) h3
      exact key n S a E (Later.refl _ _) hR h'
    · cases h'
  | scope c ih =>
    intro an R S K r a E Q h hR hK
    simp only [codeK] at h
    refine joinK_sound h hR (fun K' r' h' hK' => ?_) hK
    refine wp_scope_straight (ih _ h' hR fun e S' a' E' h1 h2 h3 => ?_)
    cases e with
    | normal => exact hK' .normal S' a' E' h1 h2 h3
    | exit id => exact hK' (.exit id) S' a' E' h1 h2 h3
    | ret => exact hK' .ret S' a' E' h1 h2 h3
  | rangeFunc f ps x y ihx ihy => intro an R S K r a E Q h; simp only [codeK] at h; cases h
  | goto l => intro an R S K r a E Q h; simp only [codeK] at h; cases h
  | refuse w => intro an R S K r a E Q h; simp only [codeK] at h; cases h
end
end Go.Rx
/- Code: what comes behind may be taken out. -/
namespace Go.Rx
theorem bifS_nat {α β : Type} {b : Bool} {x x' : Option α} {y y' : Option β} {f : α → Option β} (h : y = x.bind f) (h' : y' = x'.bind f) : (bif b then y else y') = (bif b then x else x').bind f := by
  cases b
  · exact h'
  · exact h

theorem via {α β γ : Type} {x : Option α} {y : Option β} {z : Option γ} {f : α → Option β} {f' : α → Option γ} {g : γ → Option β} (h : y = x.bind f) (h' : z = x.bind f') (hf : ∀ a, f a = (f' a).bind g) : y = z.bind g := by
  rw [h, h', Option.bind_assoc]
  congr 1
  funext a
  exact hf a

theorem unpackE_nat {R : Type} (base : St) (K : Ex → St → Option R) : ∀ (ex : Exits) (j : JT ex), unpackE base ex j K = (unpackE base ex j fun e S => some (e, S)).bind fun p => K p.1 p.2
  | [], j => nomatch j
  | [e], j => rfl
  | e :: e' :: r, j => by
    cases j with
    | inl p => rfl
    | inr j => exact unpackE_nat base K (e' :: r) j
theorem joinK_nat {R : Type} {ex : Option Exits} {S : St} {K : Ex → St → Option R} {run : ∀ {R' : Type}, (Ex → St → Option R') → Option R'}
    (hr : ∀ {R' : Type} (K' : Ex → St → Option R'), run K' = (run fun e S => some (e, S)).bind fun p => K' p.1 p.2) :
    joinK ex S K run = (joinK ex S (fun e S => some (e, S)) run).bind fun p => K p.1 p.2 := by
  cases ex with
  | none => exact hr K
  | some ex =>
    simp only [joinK, Option.bind_assoc]
    congr 1
    funext j
    exact unpackE_nat S K ex j
theorem rollK_nat {body : St → ∀ {R : Type}, (Ex → St → Option R) → Option R} (hb : ∀ (S : St) {R : Type} (K : Ex → St → Option R), body S K = (body S fun e S => some (e, S)).bind fun p => K p.1 p.2)
    {R : Type} (K : Ex → St → Option R) : ∀ (n : Nat) (S : St), rollK (fun S K => body S K) K n S = (rollK (fun S K => body S K) (fun e S => some (e, S)) n S).bind fun p => K p.1 p.2
  | 0, S => rfl
  | n + 1, S => by
    simp only [rollK]
    refine via (hb S _) (hb S _) fun p => ?_
    obtain ⟨e, S'⟩ := p
    cases e with
    | normal => exact rollK_nat hb K n S'
    | exit id => rfl
    | ret => rfl

section
variable {T : Tab} {H : Handler} (hN : ∀ {R : Type} (f : FuncId) (args : List AV) (S : St) (K : AV → St → Option R), H.run f args S K = (H.run f args S fun v S' => some (v, S')).bind fun p => K p.1 p.2)
include hN
theorem opK_nat {R : Type} (o : Oper) (S : St) (K : St → Option R) : opK T H o S K = (opK T H o S some).bind K := by
  unfold opK
  rw [opV_nat hN, opV_nat hN (K := fun v objs next => some (S.step o.dst v objs next)), Option.bind_assoc]
  rfl
theorem opsK_nat {ops : Array Oper} {R : Type} (K : St → Option R) : ∀ (l : List Oper) (S : St), opsK T H ops l S K = (opsK T H ops l S some).bind K
  | [], S => rfl
  | o :: l, S => by
    have run : ∀ S, opK T H o S (fun S => opsK T H ops l S K) = (opK T H o S fun S => opsK T H ops l S some).bind K := by
      intro S
      rw [opK_nat hN, opK_nat hN (K := fun S => opsK T H ops l S some), Option.bind_assoc]
      congr 1
      funext S'
      exact opsK_nat K l S'
    simp only [opsK]
    cases guardOf ops S o with
    | no => rfl
    | run => exact run S
    | skip => exact opsK_nat K l _
    | test d b want =>
      cases want with
      | true => exact bifS_nat (run _) (opsK_nat K l _)
      | false => exact bifS_nat (opsK_nat K l _) (run _)
theorem stepK_nat {R : Type} (o : Oper) (S : St) (K : St → Option R) : stepK T H o S K = (stepK T H o S some).bind K := by
  unfold stepK
  cases chainy o.op with
  | true =>
    simp only [cond_true]
    rw [opV_nat hN, opV_nat hN (K := fun v objs next => some (S.step o.dst v objs next)), Option.bind_assoc]
    rfl
  | false =>
    simp only [cond_false]
    split
    · rfl
    · rename_i b v _
      cases b <;> rfl
    · rfl
theorem regK_nat {ops : Array Oper} {an : List Nat} {R : Type} (K : St → Option R) : ∀ (pi : List Nat) (log : List Ent) (prev : Nat) (S : St), regK T H ops an pi log prev S K = (regK T H ops an pi log prev S some).bind K
  | [], log, prev, S => rfl
  | j :: rest, log, prev, S => by
    simp only [regK]
    split
    · rfl
    · rename_i o _
      have run : ∀ S log prev, stepK T H o S (fun S' => regK T H ops an rest log prev S' K) = (stepK T H o S fun S' => regK T H ops an rest log prev S' some).bind K := by
        intro S log prev
        rw [stepK_nat hN, stepK_nat hN (K := fun S' => regK T H ops an rest log prev S' some), Option.bind_assoc]
        congr 1
        funext S'
        exact regK_nat K rest log prev S'
      refine bifS_nat ?_ rfl
      cases guardOf ops S o with
      | no => rfl
      | run => exact run S _ _
      | skip => exact regK_nat K rest _ _ _
      | test d b want =>
        cases want with
        | true => exact bifS_nat (run _ _ _) (regK_nat K rest _ _ _)
        | false => exact bifS_nat (regK_nat K rest _ _ _) (run _ _ _)
theorem drawK_nat {ops : Array Oper} {pi : List Nat} {R : Type} (S : St) (K : St → Option R) : drawK T H ops pi S K = (drawK T H ops pi S some).bind K := by
  unfold drawK
  exact bifS_nat (regK_nat hN K pi _ _ S) rfl

theorem codeK_nat : ∀ (c : Code) (an : Ann) {R : Type} (S : St) (K : Ex → St → Option R), codeK T H c an S K = (codeK T H c an S fun e S => some (e, S)).bind fun p => K p.1 p.2 := by
  intro c
  induction c with
  | skip => intro an R S K; simp only [codeK]; exact joinK_nat fun K' => rfl
  | label l => intro an R S K; simp only [codeK]; exact joinK_nat fun K' => rfl
  | exit id => intro an R S K; simp only [codeK]; exact joinK_nat fun K' => rfl
  | ret => intro an R S K; simp only [codeK]; exact joinK_nat fun K' => rfl
  | region id ops draw =>
    intro an R S K
    simp only [codeK]
    refine joinK_nat fun K' => ?_
    cases draw with
    | false =>
      simp only
      rw [opsK_nat hN, opsK_nat hN (K := fun S => some (Ex.normal, S)), Option.bind_assoc]
      rfl
    | true =>
      simp only
      cases an.inner with
      | draw pi =>
        simp only
        rw [drawK_nat hN, drawK_nat hN (K := fun S => some (Ex.normal, S)), Option.bind_assoc]
        rfl
      | _ => rfl
  | seq x y ihx ihy =>
    intro an R S K
    simp only [codeK]
    refine joinK_nat fun K' => ?_
    refine via (ihx _ _ _) (ihx _ _ _) fun p => ?_
    obtain ⟨e, S'⟩ := p
    cases e with
    | normal => exact ihy _ _ _
    | exit id => rfl
    | ret => rfl
  | cond c x y ihx ihy =>
    intro an R S K
    simp only [codeK]
    refine joinK_nat fun K' => ?_
    cases ev S c with
    | bool b => exact bifS_nat (ihx _ _ _) (ihy _ _ _)
    | _ => rfl
  | block id c ih =>
    intro an R S K
    simp only [codeK]
    refine joinK_nat fun K' => ?_
    refine via (ih _ _ _) (ih _ _ _) fun p => ?_
    obtain ⟨e, S'⟩ := p
    cases e with
    | normal => rfl
    | exit id' => cases hb : Nat.beq id' id <;> simp only [hb, cond_true, cond_false] <;> rfl
    | ret => rfl
  | loop c ih =>
    intro an R S K
    simp only [codeK]
    refine joinK_nat fun K' => ?_
    cases an.inner with
    | loop sp ex b =>
      simp only
      cases pack S S.tmps sp S.objs with
      | none => rfl
      | some p =>
        simp only [oB, Option.bind_assoc]
        congr 1
        funext j
        exact unpackE_nat S K' ex j
    | roll n b => exact rollK_nat (body := fun S {R} K => codeK T H c b S K) (fun S {R} K => ih b S K) K' n S
    | _ => rfl
  | scope c ih =>
    intro an R S K
    simp only [codeK]
    refine joinK_nat fun K' => ih _ _ _
  | rangeFunc f ps x y ihx ihy => intro an R S K; simp only [codeK]; rfl
  | goto l => intro an R S K; simp only [codeK]; rfl
  | refuse w => intro an R S K; simp only [codeK]; rfl
end

theorem handler_nat (T : Tab) (Es : List (Nat × Callee)) : ∀ (n : Nat) {R : Type} (f : FuncId) (args : List AV) (S : St) (K : AV → St → Option R),
    (handler T Es n).run f args S K = ((handler T Es n).run f args S fun v S' => some (v, S')).bind fun p => K p.1 p.2
  | 0, R, f, args, S, K => rfl
  | n + 1, R, f, args, S, K => by
    simp only [handler]
    cases eget f Es with
    | none => rfl
    | some c =>
      cases c with
      | sem ins outs fn =>
        simp only
        refine bifS_nat ?_ ?_
        · cases packLend S.objs ins args with
          | none => rfl
          | some x => simp only [Option.bind_assoc]; rfl
        · cases packArgs ins args S.objs with
          | none => rfl
          | some x => simp only [Option.bind_assoc]; rfl
      | inl fn body an =>
        simp only
        refine via (codeK_nat (handler_nat T Es n) _ _ _ _) (codeK_nat (handler_nat T Es n) _ _ _ _) fun p => ?_
        obtain ⟨e, S'⟩ := p
        cases e with
        | exit id => rfl
        | normal => simp only; cases resultsOf S' fn.results.toList T <;> rfl
        | ret => simp only; cases resultsOf S' fn.results.toList T <;> rfl
end Go.Rx
/- Calls: contracts, and bodies that are walked in place. -/
namespace Go.Rx

/-- what a call leaves: all that was there and is not handed over -/
structure Frame1 (keep : Nat → Prop) (E E' : Env) : Prop where
  out : Quiet E.w E'.w
  ro : ∀ b, E.ro b → E'.ro b
  roN : ∀ b, E'.ro b → E.ro b ∨ ¬ keep b
  size : E.w.heap.size ≤ E'.w.heap.size
  heapRo : ∀ b, E.ro b → E'.w.heap[b]? = E.w.heap[b]?
  heapKeep : ∀ b, keep b → E'.w.heap[b]? = E.w.heap[b]?

/-- results -/
def ResRep (E : Env) (us : List AV) (v : Value) : Prop := ∃ vs : List Value, VRepL E us vs ∧ v = (if h : vs.toArray.size = 1 then vs.toArray[0] else .tuple vs.toArray)
theorem ResRep.one {E : Env} {us : List AV} {v : Value} (h : ResRep E us v) : SRep E (oneOf us) v := by
  obtain ⟨vs, hr, e⟩ := h
  subst e
  match us, hr with
  | [], hr => rw [show vs = [] from hr]; exact ⟨[], rfl, rfl⟩
  | [a], hr =>
    obtain ⟨x, r, rfl, r1, r2⟩ := hr
    rw [show r = [] from r2]
    exact r1.toS
  | a :: b :: l, hr =>
    obtain ⟨x, r, rfl, r1, y, r', rfl, r2, r3⟩ := hr
    rw [dif_neg (by simp)]
    exact ⟨_, rfl, x, _, rfl, r1, y, _, rfl, r2, r3⟩

/-- a function does, what a function of pure values says -/
structure Contract (P : Program) (f : FuncId) (ins outs : List (Bool × Ty)) (fn : denL ins → Option (denL outs)) : Prop where
  has : ∃ F, P.funcs[f]? = some F ∧ (F.name == "runtime.NumGoroutine") = false ∧ F.body.isNone = false
  ok : ∀ (x : denL ins) (y : denL outs), fn x = some y → ∀ (keep : Nat → Prop) (E : Env) (vs : List AV) (vals : List Value) (objs objs' : Objs), Mems E keep objs → SRepL E vs vals → packArgs ins vs objs = some (x, objs') →
    Calls P f vals.toArray E.w fun e w' => ∃ us v ob ob' E', e = .returned v ∧ E'.w = w' ∧ ResRep E' us v ∧ Mems E' (fun b => keep b ∨ Live E objs' b) ob ∧ packArgs outs us ob = some (y, ob') ∧
      Frame1 (fun b => keep b ∨ Live E objs' b) E E'

section
variable {P : Program} {T : Tab} (hT : TabOK P T) {keep : Nat → Prop}

theorem SRepL.later {E E' : Env} (hL : Later keep E E') : ∀ {l : List AV} {vs : List Value}, SRepL E l vs → SRepL E' l vs
  | [], _, r => r
  | a :: l, vs, r => by
    obtain ⟨v, s, e, r1, r2⟩ := r
    exact ⟨v, s, e, SRep.later hL r1, SRepL.later hL r2⟩

theorem VRepL.toS {E : Env} : ∀ {l : List AV} {vs : List Value}, VRepL E l vs → SRepL E l vs
  | [], _, r => r
  | a :: l, vs, r => by
    obtain ⟨v, s, e, r1, r2⟩ := r
    exact ⟨v, s, e, r1.toS, VRepL.toS r2⟩
/-- values are taken out of the old and laid into the new, one behind the other -/
theorem relayAll {n : Nat} : ∀ (l : List (Bool × Ty)) {A B : Env} {oa ob oa' : Objs} {vs : List AV} {vals : List Value} {x : denL l}, Two n keep A B oa ob → SRepL A vs vals → packArgs l vs oa = some (x, oa') →
    ∃ A' B', Given keep A A' ∧ Later keep B B' ∧ Two n keep A' B' oa' (layAll l x ⟨ob, B.N⟩).2.objs ∧ B'.N = (layAll l x ⟨ob, B.N⟩).2.next ∧ VRepL B' (layAll l x ⟨ob, B.N⟩).1 vals
  | [], A, B, oa, ob, oa', vs, vals, x, h, hr, hp => by
    cases vs with
    | nil => cases hp; exact ⟨A, B, Given.refl _ _, Later.refl _ _, h, rfl, hr⟩
    | cons => cases hp
  | [t], A, B, oa, ob, oa', vs, vals, x, h, hr, hp => by
    match vs, hr, hp with
    | [v], hr, hp =>
      obtain ⟨xv, r, rfl, r1, r2⟩ := hr
      obtain ⟨A1, B1, g, L, T1, N1, hs⟩ := relayV h r1 hp
      exact ⟨A1, B1, g, L, T1, N1, xv, r, rfl, hs, r2⟩
  | t :: t' :: l, A, B, oa, ob, oa', vs, vals, x, h, hr, hp => by
    match vs, hr, hp with
    | v :: vs, hr, hp =>
      obtain ⟨xv, r, rfl, r1, r2⟩ := hr
      simp only [packArgs] at hp
      split at hp
      · rename_i y oa1 h1
        split at hp
        · rename_i ys oa2 h2
          cases hp
          obtain ⟨A1, B1, g1, L1, T1, N1, hs1⟩ := relayV h r1 h1
          obtain ⟨A2, B2, g2, L2, T2, N2, hs2⟩ := relayAll (t' :: l) T1 (SRepL.later g1.later r2) h2
          rw [N1] at T2 N2 hs2
          exact ⟨A2, B2, g1.trans g2, L1.trans L2, T2, N2, xv, r, rfl, VRep.later L2 hs1, hs2⟩
        · cases hp
      · cases hp

def resF (tmps : Array Value) : ResultVar → Sem Value
  | .tmp t => pure (tmps.getD t undef)
  | .cell p t => do loadVar t (← asAddr (tmps.getD p undef))
include hT
theorem results_sound {keep : Nat → Prop} {z : Nat} {S : St} {a : Act} {E : Env} (hR : Rel keep z S a E) (fn : Func) {vs : List AV} (h : resultsOf S fn.results.toList T = some vs) :
    ∃ v, (results fn a.tmps).run P E.w = .ok v E.w ∧ ResRep E vs v := by
  have key : ∀ (l : List ResultVar) (vs : List AV), resultsOf S l T = some vs → ∃ us : List Value, (l.mapM (resF a.tmps)).run P E.w = .ok us E.w ∧ VRepL E vs us := by
    intro l
    induction l with
    | nil => intro vs h; cases h; exact ⟨[], by simp, rfl⟩
    | cons x l ih =>
      intro vs h
      cases x with
      | tmp t =>
        simp only [resultsOf] at h
        have hv := ev_rep hR.slots (.tmp t)
        have hev : ev S (.tmp t) = getA S.tmps t := rfl
        rw [hev] at hv
        split at h
        · cases h
        · rename_i v hnt
          obtain ⟨vs', h1, rfl⟩ := oM_some h
          obtain ⟨us, h2, h3⟩ := ih _ h1
          have ht : (getA S.tmps t).isTup = false := by
            cases hg : getA S.tmps t <;> first
              | rfl
              | exact absurd hg (hnt _)
          refine ⟨a.tmps.getD t undef :: us, ?_, _, us, rfl, (SRep.iff_V ht).1 hv, h3⟩
          rw [List.mapM_cons, Sem.run_bind]
          simp only [resF, Sem.run_pure, Result.andThen_ok, Sem.run_bind]
          rw [h2]; rfl
      | cell p t =>
        simp only [resultsOf] at h
        split at h
        · rename_i v hl
          obtain ⟨vs', h1, rfl⟩ := oM_some h
          obtain ⟨us, h2, h3⟩ := ih _ h1
          have hx := ev_rep hR.slots (.tmp p)
          have hev : ev S (.tmp p) = getA S.tmps p := rfl
          rw [hev] at hx
          obtain ⟨y, h4, h5⟩ := loadV_sound hT hR.mems (show (loadV T S t (getA S.tmps p)).gives v by rw [hl]; rfl) hx
          have h6 : (do loadVar t (← asAddr (a.tmps.getD p undef)) : Sem Value).run P E.w = .ok y E.w := by
            have e : a.eval (.tmp p) = a.tmps.getD p undef := rfl
            rw [e] at h4
            generalize a.tmps.getD p undef = q at h4 ⊢
            cases q <;> first
              | (simp [Instr.loadAt, Instr.sureAddr] at h4; done)
              | skip
            rename_i ad
            cases ad with
            | none => simp [Instr.loadAt, Instr.sureAddr] at h4
            | some ad => simpa [Instr.loadAt, Instr.sureAddr, asAddr] using h4
          refine ⟨y :: us, ?_, _, us, rfl, h5, h3⟩
          rw [List.mapM_cons, Sem.run_bind]
          rw [show resF a.tmps (.cell p t) = (do loadVar t (← asAddr (a.tmps.getD p undef))) from rfl, h6]
          simp only [Result.andThen_ok, Sem.run_bind]
          rw [h2]; rfl
        · cases h
  obtain ⟨us, h1, h2⟩ := key _ _ h
  refine ⟨_, ?_, us, h2, rfl⟩
  show (fn.results.mapM (resF a.tmps) >>= fun vs => (pure (if h : vs.size = 1 then vs[0] else .tuple vs) : Sem Value)).run P E.w = _
  rw [Sem.run_bind, Array.mapM_eq_mapM_toList, Sem.run_map]
  rw [h1]
  rfl

omit hT
theorem SRepL.length {E : Env} : ∀ {l : List AV} {vs : List Value}, SRepL E l vs → vs.length = lenA l
  | [], _, r => by rw [show _ = [] from r]; rfl
  | a :: l, vs, r => by
    obtain ⟨v, s, rfl, _, r2⟩ := r
    simp only [List.length_cons, lenA, SRepL.length r2]
theorem slots_of {E : Env} : ∀ {l : List AV} {vs : List Value}, SRepL E l vs → Slots E l vs.toArray
  | [], _, r => by
    rw [show _ = [] from r]
    exact ⟨rfl, fun i v hv => by simp at hv⟩
  | a :: l, vs, r => by
    obtain ⟨v, s, rfl, r1, r2⟩ := r
    obtain ⟨h1, h2⟩ := slots_of r2
    refine ⟨by simp only [List.length_cons, List.size_toArray] at h1 ⊢; omega, fun i u hu => ?_⟩
    cases i with
    | zero => simp at hu; subst hu; exact r1
    | succ i => exact h2 i u (by simpa using hu)
theorem repA_rep {E : Env} : ∀ (n : Nat), SRepL E (repA (.tup []) n) (List.replicate n undef)
  | 0 => rfl
  | n + 1 => ⟨undef, _, rfl, ⟨[], rfl, rfl⟩, repA_rep n⟩
theorem entry_rel {E : Env} {args : List AV} {vals : List Value} {objs : Objs} {next : Nat} (hm : Mems E keep objs) (hN : E.N = next) (hr : SRepL E args vals) (n : Nat) :
    Rel keep (vals.toArray ++ Array.replicate (n - vals.toArray.size) undef).size ⟨appA args (repA (.tup []) (n - lenA args)), objs, next⟩ { tmps := vals.toArray ++ Array.replicate (n - vals.toArray.size) undef, defers := [] } E := by
  have h := slots_of (SRepL.app hr (repA_rep (E := E) (n - lenA args)))
  have e : (vals ++ List.replicate (n - lenA args) undef).toArray = vals.toArray ++ Array.replicate (n - vals.toArray.size) undef := by
    rw [← SRepL.length hr]
    apply Array.toList_inj.1
    simp
  rw [e] at h
  exact ⟨rfl, h, hm, hN, rfl⟩

include hT
theorem body_sound (hP : P.follows .mixedOrders = true) {H : Handler} (hH : HOK P H) {f : FuncId} {fn : Func} {body : Code} (hf : P.funcs[f]? = some fn) (hb : fn.body = some body) {an : Ann} {args : List AV} {vals : List Value} {objs : Objs} {next : Nat} {R : Type} {K : List AV → St → Option R} {r : R} {E : Env}
    (h : codeK T H body an ⟨appA args (repA (.tup []) (fn.ntmps - lenA args)), objs, next⟩ (fun e S' => match e with
      | .exit _ => none
      | _ => match resultsOf S' fn.results.toList T with
        | some vs => K vs S'
        | none => none) = some r) (hm : Mems E keep objs) (hN : E.N = next) (hr : SRepL E args vals) :
    Calls P f vals.toArray E.w fun e w' => ∃ us v S' E', e = .returned v ∧ E'.w = w' ∧ Later keep E E' ∧ Mems E' keep S'.objs ∧ E'.N = S'.next ∧ ResRep E' us v ∧ K us S' = some r := by
  refine calls_of_wp hf hb (code_sound hT hH hP body an h (entry_rel hm hN hr fn.ntmps) fun e S' a' E' hR hL hk => ?_)
  have fin : (match resultsOf S' fn.results.toList T with
      | some vs => K vs S'
      | none => none) = some r → a'.defers = [] ∧ ∃ v, (results fn a'.tmps).run P E'.w = .ok v E'.w ∧ ∃ us v_1 S' E'_1, Ending.returned v = .returned v_1 ∧ E'_1.w = E'.w ∧ Later keep E E'_1 ∧ Mems E'_1 keep S'.objs ∧ E'_1.N = S'.next ∧ ResRep E'_1 us v_1 ∧ K us S' = some r := by
    intro hk
    split at hk
    · rename_i vs hvs
      obtain ⟨v, h1, h2⟩ := results_sound hT hR fn hvs
      exact ⟨hR.defers, v, h1, vs, v, S', E', rfl, rfl, hL, hR.mems, hR.next, h2, hk⟩
    · cases hk
  cases e with
  | normal => exact fin hk
  | ret => exact fin hk
  | exit id => cases hk

set_option linter.unusedSectionVars false in
/-- what is laid of pure values -/
theorem layAll_pure : ∀ (l : List (Bool × Ty)) (x : denL l) (m : Mem), allPure l = true → (layAll l x m).2 = m
  | [], _, _, _ => rfl
  | [t], x, m, h => by
    simp only [allPure, Bool.and_eq_true] at h
    simp only [layAll, layOne, laid_pure _ _ _ h.1]
  | t :: t' :: l, x, m, h => by
    simp only [allPure, Bool.and_eq_true] at h
    have h2 := layAll_pure (t' :: l) x.2 m (by simp only [allPure, Bool.and_eq_true]; exact h.2)
    simp only [layAll, layOne, laid_pure _ _ _ h.1]
    exact h2
end
end Go.Rx
/- Contracts: from a body; at a call. -/
namespace Go.Rx
section
variable {P : Program} {T : Tab} (hT : TabOK P T) {keep : Nat → Prop}

theorem toTy_sub : ∀ (t : Ty) {cs rest : List AV} {objs objs' : Objs} {x : den t}, toTy t cs objs = some (x, rest, objs') → ∀ j oc, look j objs' = some oc → look j objs = some oc
  | .int k, cs, rest, objs, objs', x, h => by
    simp only [toTy] at h
    split at h
    · split at h
      · cases h; exact fun _ _ h => h
      · cases h
    · cases h
  | .bool, cs, rest, objs, objs', x, h => by
    simp only [toTy] at h
    split at h
    · cases h; exact fun _ _ h => h
    · cases h
  | .str, cs, rest, objs, objs', x, h => by
    simp only [toTy] at h
    split at h
    · cases h; exact fun _ _ h => h
    · cases h
  | .sl t, cs, rest, objs, objs', x, h => by
    simp only [toTy] at h
    split at h
    · obtain ⟨_, _, h⟩ := oM_some h; cases h; exact fun _ _ h => h
    · cases h; exact fun _ _ h => h
    · obtain ⟨⟨_, _⟩, hl, h⟩ := oM_some h; cases h; exact takeOwn_sub hl
    · cases h
  | .own t, cs, rest, objs, objs', x, h => by
    simp only [toTy] at h
    split at h
    · cases h; exact fun _ _ h => h
    · obtain ⟨⟨_, _⟩, hl, h⟩ := oM_some h; cases h; exact takeOwn_sub hl
    · cases h
  | .unit, cs, rest, objs, objs', x, h => by
    simp only [toTy] at h; cases h; exact fun _ _ h => h
  | .pair a b, cs, rest, objs, objs', x, h => by
    simp only [toTy] at h
    split at h
    · rename_i h1
      split at h
      · rename_i h2
        cases h
        exact fun j oc hj => toTy_sub a h1 j oc (toTy_sub b h2 j oc hj)
      · cases h
    · cases h
  | .arr n t, cs, rest, objs, objs', x, h => by
    simp only [toTy] at h
    split at h
    · split at h
      · obtain ⟨_, _, h⟩ := oM_some h; cases h; exact fun _ _ h => h
      · cases h
    · have key : ∀ (n : Nat) {cs rest : List AV} {objs objs' : Objs} {xs : List (den t)}, manyTy (toTy t) n cs objs = some (xs, rest, objs') → ∀ j oc, look j objs' = some oc → look j objs = some oc := by
        intro n
        induction n with
        | zero => intro cs rest objs objs' xs h; simp only [manyTy] at h; cases h; exact fun _ _ h => h
        | succ n ih =>
          intro cs rest objs objs' xs h
          simp only [manyTy] at h
          split at h
          · rename_i h1
            split at h
            · rename_i h2
              cases h
              exact fun j oc hj => toTy_sub t h1 j oc (ih h2 j oc hj)
            · cases h
          · cases h
      exact key n h
theorem takeV_sub {t : Bool × Ty} {v : AV} {objs objs' : Objs} {x : den t.2} (h : takeV t v objs = some (x, objs')) : ∀ j oc, look j objs' = some oc → look j objs = some oc := by
  rcases bif_some h with ⟨_, h⟩ | ⟨_, h⟩
  · unfold asTy at h
    split at h
    · split at h
      · rename_i h1
        cases h
        exact toTy_sub _ h1
      · cases h
    · cases h
  · cases h
theorem packArgs_sub : ∀ (l : List (Bool × Ty)) {vs : List AV} {objs objs' : Objs} {x : denL l}, packArgs l vs objs = some (x, objs') → ∀ j oc, look j objs' = some oc → look j objs = some oc
  | [], vs, objs, objs', x, h => by
    cases vs with
    | nil => cases h; exact fun _ _ h => h
    | cons => cases h
  | [t], vs, objs, objs', x, h => by
    match vs, h with
    | [v], h => exact takeV_sub h
  | t :: t' :: l, vs, objs, objs', x, h => by
    match vs, h with
    | v :: vs, h =>
      simp only [packArgs] at h
      split at h
      · rename_i h1
        split at h
        · rename_i h2
          cases h
          exact fun j oc hj => takeV_sub h1 j oc (packArgs_sub (t' :: l) h2 j oc hj)
        · cases h
      · cases h
theorem mems_sub {E : Env} {objs objs' : Objs} (h : Mems E keep objs) (hs : ∀ j oc, look j objs' = some oc → look j objs = some oc) : Mems E keep objs' :=
  ⟨fun id oc hl => h.rep id oc (hs _ _ hl), fun id oc b hl => h.sep id oc b (hs _ _ hl), fun id id' oc oc' b hl hl' => h.inj id id' oc oc' b (hs _ _ hl) (hs _ _ hl'), h.rob, h.kb⟩

include hT
/-- a body's contract -/
theorem evalF_contract (hP : P.follows .mixedOrders = true) {Es : List (Nat × Callee)} {depth : Nat} (hH : HOK P (handler T Es depth)) {f : FuncId} {F : Func} {body : Code} (hf : P.funcs[f]? = some F) (hb : F.body = some body) (hname : (F.name == "runtime.NumGoroutine") = false)
    {an : Ann} {ins outs : List (Bool × Ty)} {fn : denL ins → Option (denL outs)} (h : ∀ x, evalF T Es depth F body an ins outs x = fn x) : Contract P f ins outs fn := by
  refine ⟨⟨F, hf, hname, by rw [hb]; rfl⟩, fun x y hxy keep E vs vals objs objs' hm hr hp => ?_⟩
  rw [← h] at hxy
  have T0 : Two 0 keep E { E with N := 0 } objs [] :=
    ⟨rfl, rfl, fun _ _ => rfl, Nat.le_refl _, hm, ⟨fun id oc h => (nomatch h), fun id oc b h => (nomatch h), fun id id' oc oc' b h => (nomatch h), hm.rob, hm.kb⟩, fun b _ hx => by obtain ⟨id, oc, h, _⟩ := hx; cases h⟩
  obtain ⟨A, B, g, L, T1, N1, hs⟩ := relayAll ins T0 hr hp
  have hlive : ∀ b, Live E objs' b → Live A objs' b := fun b ⟨id, oc, h1, h2⟩ => ⟨id, oc, h1, by rw [g.M]; exact h2⟩
  have hwB : B.w = E.w := T1.w.trans g.w
  have hmB : Mems B (fun b => keep b ∨ Live E objs' b) (layAll ins x ⟨[], 0⟩).2.objs :=
    ⟨T1.mb.rep, fun id oc b h1 h2 => ⟨(T1.mb.sep id oc b h1 h2).1, fun hc => hc.elim (T1.mb.sep id oc b h1 h2).2 fun hc => T1.ap b (hlive b hc) ⟨id, oc, h1, h2⟩⟩, T1.mb.inj, T1.mb.rob,
      fun b hb => hb.elim (T1.mb.kb b) fun hc => by
        obtain ⟨id, oc, h1, h2⟩ := hlive b hc
        have := live_lt (T1.ma.rep _ _ h1).2 h2
        rw [T1.w]; exact this⟩
  unfold evalF at hxy
  rw [← hwB]
  refine (body_sound (K := fun vs S' => match packArgs outs vs S'.objs with
      | some (y, _) => some y
      | none => none) hT hP hH hf hb hxy hmB N1 hs.toS).mono ?_
  rintro e w' ⟨us, v, S', E', rfl, rfl, hL, hM, hN, hres, hk⟩
  split at hk
  · rename_i y' ob' hpk
    cases hk
    refine ⟨us, v, S'.objs, ob', E', rfl, rfl, hres, hM, hpk, ⟨by rw [← hwB]; exact hL.out, fun b hb => hL.ro b ?_, fun b hb => ?_, ?_, fun b hb => ?_, fun b hb => ?_⟩⟩
    · rw [T1.ro]; exact g.later.ro b hb
    · rcases hL.roN b hb with hb | hb
      · rw [T1.ro] at hb
        rcases g.later.roN b hb with h1 | h1
        · exact .inl h1
        · exact .inr fun hc => hc.elim h1 fun hc => by
            obtain ⟨id, oc, h2, h3⟩ := hlive b hc
            exact (T1.ma.sep _ _ _ h2 h3).1 hb
      · exact .inr hb
    · rw [← hwB]; exact hL.size
    · rw [← hwB]; exact hL.heapRo b (by rw [T1.ro]; exact g.later.ro b hb)
    · rw [← hwB]; exact hL.heapKeep b hb
  · cases hk

omit hT
theorem TRep.flat {A B : Env} : ∀ {t : Ty} {x : den t} {vs : List Value}, t.flat = true → TRep A t x vs → TRep B t x vs
  | .int _, _, _, _, r => r
  | .bool, _, _, _, r => r
  | .str, _, _, _, r => r
  | .sl _, _, _, h, _ => by cases h
  | .own _, _, _, h, _ => by cases h
  | .unit, _, _, _, r => r
  | .pair a b, x, vs, h, r => by
    simp only [Ty.flat, Bool.and_eq_true] at h
    obtain ⟨u, v, e, r1, r2⟩ := r
    exact ⟨u, v, e, TRep.flat h.1 r1, TRep.flat h.2 r2⟩
  | .arr n t, l, vs, h, r => by
    obtain ⟨e1, e2, r⟩ := r
    refine ⟨e1, e2, fun i hi => ?_⟩
    obtain ⟨cs, r1, r2⟩ := r i hi
    exact ⟨cs, TRep.flat (by exact h) r1, r2⟩
theorem flat_pure : ∀ {t : Ty}, t.flat = true → t.pure = true
  | .int _, _ => rfl
  | .bool, _ => rfl
  | .str, _ => rfl
  | .sl _, h => by cases h
  | .own _, h => by cases h
  | .unit, _ => rfl
  | .pair a b, h => by
    simp only [Ty.flat, Bool.and_eq_true] at h
    simp only [Ty.pure, flat_pure h.1, flat_pure h.2, Bool.and_self]
  | .arr n t, h => flat_pure (t := t) h
theorem TRep.mono {A B : Env} (hw : B.w = A.w) (hr : ∀ b, A.ro b → B.ro b) : ∀ {t : Ty} {x : den t} {vs : List Value}, TRep A t x vs → TRep B t x vs
  | .int _, _, _, r => r
  | .bool, _, _, r => r
  | .str, _, _, r => r
  | .sl t, l, vs, r => by
    obtain ⟨a, cap, e, hc, r⟩ := r
    refine ⟨a, cap, e, hc, r.imp id ?_⟩
    rintro ⟨b, o, e, hb, r⟩
    refine ⟨b, o, e, hr b hb, fun i hi => ?_⟩
    obtain ⟨cs, r1, r2⟩ := r i hi
    exact ⟨cs, TRep.mono hw hr r1, fun j v hj => by rw [hw]; exact r2 j v hj⟩
  | .own _, _, _, r => r
  | .unit, _, _, r => r
  | .pair a b, x, vs, r => by
    obtain ⟨u, v, e, r1, r2⟩ := r
    exact ⟨u, v, e, TRep.mono hw hr r1, TRep.mono hw hr r2⟩
  | .arr n t, l, vs, r => by
    obtain ⟨e1, e2, r⟩ := r
    refine ⟨e1, e2, fun i hi => ?_⟩
    obtain ⟨cs, r1, r2⟩ := r i hi
    exact ⟨cs, TRep.mono hw hr r1, r2⟩

/-- a pure value that is taken out: what it stands for -/
theorem takeV_pure {t : Bool × Ty} {v : AV} {xv : Value} {x : den t.2} {E : Env} {objs objs1 : Objs} (hp : t.2.pure = true) (hm : Mems E keep objs) (hrep : SRep E v xv) (hx : takeV t v objs = some (x, objs1)) :
    ∃ E', Given keep E E' ∧ Mems E' keep objs1 ∧ TRep E' t.2 x xv.cells.toList ∧ (∀ b, E'.ro b → E.ro b ∨ Live E objs b) ∧ ∀ {B : Env} {m : Mem}, TRep B t.2 x xv.cells.toList → VRep B (layOne t x m).1 xv := by
  obtain ⟨agg, t⟩ := t
  rcases bif_some hx with ⟨hc, hx⟩ | ⟨_, hx⟩
  · simp only [Bool.and_eq_true] at hc
    obtain ⟨⟨_, hfit⟩, hag⟩ := hc
    unfold asTy at hx
    split at hx
    · rename_i cs hcs
      split at hx
      · rename_i x' oa2 hto
        cases hx
        obtain ⟨E', u, w, g, m, e, t1, c, l1, _⟩ := toTy_sound t hp (cellsOf_rep hrep hcs) hm hto
        rw [show w = [] from c, List.append_nil] at e
        refine ⟨E', g, m, e ▸ t1, l1, fun {B m} tB => ?_⟩
        have c1 := enc_rep tB
        have hl : (laid t x m).1 = enc t x := by rw [laid_pure t x m hp]
        show VRep B (if agg then .agg (laid t x m).1 else headA (laid t x m).1) xv
        cases agg with
        | true =>
          cases v <;> first
            | (simp [fitsA] at hfit; done)
            | skip
          obtain ⟨vs, rfl, _⟩ := hrep
          exact ⟨vs, rfl, by rw [hl]; simpa [Value.cells] using c1⟩
        | false =>
          have hsc : t.scalar = true := by simpa using hag
          obtain ⟨c, ec, hcell⟩ := laid_scalar (x := x) (m := m) hsc
          have hone : xv.cells = #[xv] := by
            cases v <;> first
              | (simp [fitsA] at hfit; done)
              | (simp [cellsOf] at hcs; done)
              | exact one_cells (CRep.one (E := E) (show CRep E _ [xv] from hrep) xv (by simp))
          rw [← hl, ec, hone] at c1
          obtain ⟨u, r, e, c3, c4⟩ := c1
          rw [show r = [] from c4, List.append_nil] at e
          have e : u = [xv] := e.symm
          rw [e] at c3
          rw [ec]
          show VRep B c xv
          cases c <;> first
            | (simp [isCell] at hcell; done)
            | exact c3
      · cases hx
    · cases hx
  · cases hx

theorem toTy_enc : ∀ (t : Ty) (x : den t) (rest : List AV) (objs : Objs), t.pure = true → toTy t (appA (enc t x) rest) objs = some (x, rest, objs)
  | .int k, x, rest, objs, _ => by simp [enc, appA, toTy]
  | .bool, x, rest, objs, _ => by simp [enc, appA, toTy]
  | .str, x, rest, objs, _ => by simp [enc, appA, toTy]
  | .sl t, x, rest, objs, _ => by simp [enc, appA, toTy, castL, oM]
  | .own t, _, _, _, h => by cases h
  | .unit, x, rest, objs, _ => rfl
  | .pair a b, x, rest, objs, h => by
    simp only [Ty.pure, Bool.and_eq_true] at h
    have happ : ∀ (l m k : List AV), appA (appA l m) k = appA l (appA m k) := by
      intro l m k
      induction l with
      | nil => rfl
      | cons a l ih => simp only [appA, ih]
    simp only [enc, toTy, happ, toTy_enc a x.1 _ objs h.1, toTy_enc b x.2 _ objs h.2]
  | .arr n t, x, rest, objs, _ => by simp [enc, appA, toTy, castL, oM]
theorem appA_nil : ∀ (l : List AV), appA l [] = l
  | [] => rfl
  | a :: l => by simp only [appA, appA_nil l]

/-- what was laid of a pure value is had back -/
theorem takeV_lay {t : Bool × Ty} {v : AV} {x : den t.2} {objs objs1 ob : Objs} {m : Mem} (hp : t.2.pure = true) (hx : takeV t v objs = some (x, objs1)) : takeV t (layOne t x m).1 ob = some (x, ob) := by
  obtain ⟨agg, t⟩ := t
  rcases bif_some hx with ⟨hc, _⟩ | ⟨_, hx⟩
  · simp only [Bool.and_eq_true] at hc
    obtain ⟨⟨hokp, _⟩, hag⟩ := hc
    have hl : (laid t x m).1 = enc t x := by rw [laid_pure t x m hp]
    have henc := toTy_enc t x [] ob hp
    rw [appA_nil] at henc
    show (bif t.okp && fitsA agg (if agg then .agg (laid t x m).1 else headA (laid t x m).1) && (agg || t.scalar) then asTy t (if agg then .agg (laid t x m).1 else headA (laid t x m).1) ob else none) = some (x, ob)
    cases agg with
    | true => simp [hokp, fitsA, asTy, cellsOf, hl, henc]
    | false =>
      have hsc : t.scalar = true := by simpa using hag
      obtain ⟨c, ec, hcell⟩ := laid_scalar (x := x) (m := m) hsc
      rw [← hl, ec] at henc
      have hco : cellsOf c = some [c] := by cases c <;> first | (simp [isCell] at hcell; done) | rfl
      have hfi : fitsA false c = true := by cases c <;> first | (simp [isCell] at hcell; done) | rfl
      simp [hokp, hsc, ec, headA, hfi, asTy, hco, henc]
  · cases hx

theorem lend_sound {E : Env} {objs : Objs} (hm : Mems E keep objs) : ∀ (l : List (Bool × Ty)) {vs : List AV} {vals : List Value} {x : denL l} {m : Mem}, allPure l = true → SRepL E vs vals → packLend objs l vs = some x →
    SRepL { E with ro := fun b => E.ro b ∨ Live E objs b } (layAll l x m).1 vals ∧ packArgs l (layAll l x m).1 [] = some (x, [])
  | [], vs, vals, x, m, _, hr, h => by
    cases vs with
    | nil => exact ⟨hr, rfl⟩
    | cons => cases h
  | [t], vs, vals, x, m, hp, hr, h => by
    simp only [allPure, Bool.and_eq_true] at hp
    match vs, hr, h with
    | [v], hr, h =>
      obtain ⟨xv, r, rfl, r1, r2⟩ := hr
      simp only [packLend] at h
      split at h
      · rename_i y o1 h1
        cases h
        obtain ⟨E', g, _, t1, l1, hB⟩ := takeV_pure hp.1 hm r1 h1
        refine ⟨⟨xv, r, rfl, (hB (TRep.mono (by rw [g.w]) l1 t1)).toS, r2⟩, ?_⟩
        show takeV t (layOne t x m).1 [] = some (x, [])
        exact takeV_lay hp.1 h1
      · cases h
  | t :: t' :: l, vs, vals, x, m, hp, hr, h => by
    simp only [allPure, Bool.and_eq_true] at hp
    match vs, hr, h with
    | v :: vs, hr, h =>
      obtain ⟨xv, r, rfl, r1, r2⟩ := hr
      simp only [packLend] at h
      split at h
      · rename_i y o1 h1
        split at h
        · rename_i ys h2
          cases h
          obtain ⟨E', g, _, t1, l1, hB⟩ := takeV_pure hp.1 hm r1 h1
          obtain ⟨h3, h4⟩ := lend_sound hm (t' :: l) (m := (layOne t y m).2) (by simp only [allPure, Bool.and_eq_true]; exact hp.2) r2 h2
          refine ⟨⟨xv, r, rfl, (hB (TRep.mono (by rw [g.w]) l1 t1)).toS, h3⟩, ?_⟩
          simp only [layAll, packArgs, takeV_lay hp.1 h1, h4]
        · cases h
      · cases h

theorem flat_results : ∀ (l : List (Bool × Ty)) {E B : Env} {objs objs' : Objs} {us : List AV} {vals : List Value} {x : denL l} {m : Mem}, allFlat l = true → Mems E keep objs → SRepL E us vals → packArgs l us objs = some (x, objs') → VRepL B (layAll l x m).1 vals
  | [], E, B, objs, objs', us, vals, x, m, _, hm, hr, h => by
    cases us with
    | nil => exact hr
    | cons => cases h
  | [t], E, B, objs, objs', us, vals, x, m, hf, hm, hr, h => by
    simp only [allFlat, Bool.and_eq_true] at hf
    match us, hr, h with
    | [v], hr, h =>
      obtain ⟨xv, r, rfl, r1, r2⟩ := hr
      obtain ⟨E', g, _, t1, l1, hB⟩ := takeV_pure (flat_pure hf.1) hm r1 h
      exact ⟨xv, r, rfl, hB (TRep.flat hf.1 t1), r2⟩
  | t :: t' :: l, E, B, objs, objs', us, vals, x, m, hf, hm, hr, h => by
    simp only [allFlat, Bool.and_eq_true] at hf
    match us, hr, h with
    | v :: us, hr, h =>
      obtain ⟨xv, r, rfl, r1, r2⟩ := hr
      simp only [packArgs] at h
      split at h
      · rename_i y o1 h1
        split at h
        · rename_i ys o2 h2
          cases h
          obtain ⟨E', g, m1, t1, l1, hB⟩ := takeV_pure (flat_pure hf.1) hm r1 h1
          exact ⟨xv, r, rfl, hB (TRep.flat hf.1 t1), flat_results (t' :: l) (by simp only [allFlat, Bool.and_eq_true]; exact hf.2) m1 (SRepL.later g.later r2) h2⟩
        · cases h
      · cases h
theorem flat_allPure : ∀ (l : List (Bool × Ty)), allFlat l = true → allPure l = true
  | [], _ => rfl
  | t :: l, h => by
    simp only [allFlat, Bool.and_eq_true] at h
    simp only [allPure, flat_pure h.1, flat_allPure l h.2, Bool.and_self]

theorem look_inO {ids : List Nat} {id : Nat} {oc : OC} : ∀ {l : Objs}, look id (inO ids l) = some oc → look id l = some oc ∧ memN id ids = true
  | (j, o) :: l, h => by
    simp only [inO] at h
    cases hb : memN j ids with
    | true =>
      rw [hb] at h
      simp only [cond_true, look] at h ⊢
      cases hj : Nat.beq j id with
      | true =>
        rw [hj] at h
        have := Nat.eq_of_beq_eq_true hj
        subst this
        exact ⟨h, hb⟩
      | false => rw [hj] at h; exact look_inO h
    | false =>
      rw [hb] at h
      simp only [cond_false] at h
      obtain ⟨h1, h2⟩ := look_inO h
      refine ⟨?_, h2⟩
      simp only [look]
      cases hj : Nat.beq j id with
      | true =>
        have := Nat.eq_of_beq_eq_true hj
        subst this
        rw [hb] at h2; cases h2
      | false => exact h1
theorem look_outO {ids : List Nat} {id : Nat} {oc : OC} : ∀ {l : Objs}, look id (outO ids l) = some oc → look id l = some oc ∧ memN id ids = false
  | (j, o) :: l, h => by
    simp only [outO] at h
    cases hb : memN j ids with
    | false =>
      rw [hb] at h
      simp only [cond_false, look] at h ⊢
      cases hj : Nat.beq j id with
      | true =>
        rw [hj] at h
        have := Nat.eq_of_beq_eq_true hj
        subst this
        exact ⟨h, hb⟩
      | false => rw [hj] at h; exact look_outO h
    | true =>
      rw [hb] at h
      simp only [cond_true] at h
      obtain ⟨h1, h2⟩ := look_outO h
      refine ⟨?_, h2⟩
      simp only [look]
      cases hj : Nat.beq j id with
      | true =>
        have := Nat.eq_of_beq_eq_true hj
        subst this
        rw [hb] at h2; cases h2
      | false => exact h1
theorem look_mergeO {id : Nat} {oc : OC} : ∀ {l m : Objs}, look id (mergeO l m) = some oc → look id l = some oc ∨ look id m = some oc
  | [], m, h => .inr h
  | (j, o) :: l, m, h => by
    simp only [mergeO] at h
    rw [look_setO] at h
    simp only [look]
    cases hj : Nat.beq j id with
    | true =>
      have := Nat.eq_of_beq_eq_true hj
      subst this
      rw [if_pos rfl] at h
      exact .inl h
    | false =>
      have hne : id ≠ j := fun e => by rw [e, Nat.beq_refl] at hj; cases hj
      rw [if_neg hne] at h
      exact look_mergeO h

def CalleeOK (P : Program) (f : FuncId) : Callee → Prop
  | .sem ins outs fn => Contract P f ins outs fn
  | .inl fn body _ => P.funcs[f]? = some fn ∧ fn.body = some body ∧ (fn.name == "runtime.NumGoroutine") = false

include hT
theorem handler_sound (hP : P.follows .mixedOrders = true) {Es : List (Nat × Callee)} (hE : ∀ f c, eget f Es = some c → CalleeOK P f c) : ∀ n, HOK P (handler T Es n)
  | 0 => ⟨fun f args S K => rfl, fun f args S v S' h => (nomatch h), fun f args S v S' h => (nomatch h), fun f args S K r h => (nomatch h), fun f args S K r h => (nomatch h)⟩
  | n + 1 => by
    have ih := handler_sound hP hE n
    refine ⟨handler_nat T Es (n + 1), fun f args S v S' h hr => ?_, fun f args S v S' h hr j hj hlt => ?_, fun f args S K r h => ?_, fun f args S K r h keep E vals hm hN hr => ?_⟩
    · simp only [handler] at h hr
      split at h
      · rename_i ins outs fn he
        rw [he] at hr
        simp only [h, cond_true] at hr
        split at hr
        · rw [Option.bind_eq_some_iff] at hr
          obtain ⟨y, _, hr⟩ := hr
          simp only [Bool.and_eq_true] at h
          have hmem : (layOut outs y ⟨S.objs, S.next⟩).2 = ⟨S.objs, S.next⟩ := layAll_pure hT outs y _ (flat_allPure outs h.1)
          cases hr
          exact ⟨by rw [hmem], by rw [hmem]⟩
        · cases hr
      · cases h
    · simp only [handler] at h hr
      split at h
      · rename_i ins outs fn he
        rw [he] at hr
        dsimp only at hr
        rcases bif_some hr with ⟨_, hr⟩ | ⟨_, hr⟩
        · split at hr
          · rw [Option.bind_eq_some_iff] at hr
            obtain ⟨y, _, hr⟩ := hr
            cases hr
            exact (layAll_touch outs y ⟨S.objs, S.next⟩).2 hlt
          · cases hr
        · split at hr
          · rename_i x objs hx
            rw [Option.bind_eq_some_iff] at hr
            obtain ⟨y, _, hr⟩ := hr
            cases hr
            exact ((layAll_touch outs y ⟨objs, S.next⟩).2 hlt).trans (packArgs_touch ins hx hj)
          · cases hr
      · cases h
    · unfold handler at h
      dsimp only at h
      split at h
      · cases h
      · rename_i ins outs fn he
        exact (hE f _ he).has
      · rename_i fn body an he
        obtain ⟨h1, h2, h3⟩ := hE f _ he
        exact ⟨fn, h1, h3, by rw [h2]; rfl⟩
    · unfold handler at h
      dsimp only at h
      split at h
      · cases h
      · rename_i ins outs fn he
        have hC : Contract P f ins outs fn := hE f _ he
        cases hb : (allFlat outs && allPure ins) with
        | true =>
          rw [hb] at h
          simp only [Bool.and_eq_true] at hb
          simp only [cond_true] at h
          split at h
          · rename_i x hx
            rw [Option.bind_eq_some_iff] at h
            obtain ⟨y, hy, h⟩ := h
            obtain ⟨h1, h2⟩ := lend_sound hm ins (m := ⟨[], 0⟩) hb.2 hr hx
            have hm1 : Mems { E with ro := fun b => E.ro b ∨ Live E S.objs b } keep [] :=
              ⟨fun id oc h => (nomatch h), fun id oc b h => (nomatch h), fun id id' oc oc' b h => (nomatch h), fun b hb => hb.elim (hm.rob b) fun ⟨id, oc, h1, h2⟩ => live_lt (E := E) (hm.rep _ _ h1).2 h2, hm.kb⟩
            refine (hC.ok x y hy keep _ _ vals [] [] hm1 h1 h2).mono ?_
            rintro e w' ⟨us, v, ob, ob', E', rfl, rfl, hres, hM, hpk, hF⟩
            have hL : Later keep E { E with w := E'.w } :=
              ⟨fun _ h => h, fun _ h => .inl h, fun _ _ => rfl, Nat.le_refl _, hF.size, fun b hb => hF.heapRo b (.inl hb), fun b hb => hF.heapKeep b (.inl hb), hF.out⟩
            have hM2 : Mems { E with w := E'.w } keep S.objs :=
              ⟨fun id oc hl => ⟨(hm.rep id oc hl).1, ORep.later hL (fun b hb => hF.heapRo b (.inr ⟨id, oc, hl, hb⟩)) (hm.rep id oc hl).2⟩, hm.sep, hm.inj, fun b hb => Nat.lt_of_lt_of_le (hm.rob b hb) hF.size, fun b hb => Nat.lt_of_lt_of_le (hm.kb b hb) hF.size⟩
            obtain ⟨vs', hvr, ev⟩ := hres
            have hflat := flat_results outs (B := { E with w := E'.w }) (m := ⟨S.objs, S.next⟩) hb.1 hM hvr.toS hpk
            have hmem : (layOut outs y ⟨S.objs, S.next⟩).2 = ⟨S.objs, S.next⟩ := layAll_pure hT outs y _ (flat_allPure outs hb.1)
            refine ⟨_, v, { S with objs := (layOut outs y ⟨S.objs, S.next⟩).2.objs, next := (layOut outs y ⟨S.objs, S.next⟩).2.next }, { E with w := E'.w }, rfl, rfl, hL, ?_, ?_, rfl, ResRep.one ⟨vs', hflat, ev⟩, h⟩
            · show Mems _ keep (layOut outs y ⟨S.objs, S.next⟩).2.objs
              rw [hmem]; exact hM2
            · show E.N = (layOut outs y ⟨S.objs, S.next⟩).2.next
              rw [hmem]; exact hN
          · cases h
        | false =>
          rw [hb] at h
          simp only [cond_false] at h
          split at h
          · rename_i x objs' hx
            rw [Option.bind_eq_some_iff] at h
            obtain ⟨y, hy, h⟩ := h
            refine (hC.ok x y hy keep E args vals S.objs objs' hm hr hx).mono ?_
            rintro e w' ⟨us, v, ob, ob', E', rfl, rfl, hres, hM, hpk, hF⟩
            have hm' := mems_sub hm (packArgs_sub ins hx)
            have hL : Later keep E { E' with M := E.M, N := E.N } :=
              ⟨hF.ro, fun b hb => (hF.roN b hb).imp id fun h hc => h (.inl hc), fun _ _ => rfl, Nat.le_refl _, hF.size, hF.heapRo, fun b hb => hF.heapKeep b (.inl hb), hF.out⟩
            have hM2 : Mems { E' with M := E.M, N := E.N } keep objs' :=
              ⟨fun id oc hl => ⟨(hm'.rep id oc hl).1, ORep.later hL (fun b hb => hF.heapKeep b (.inr ⟨id, oc, hl, hb⟩)) (hm'.rep id oc hl).2⟩,
                fun id oc b hl hb => ⟨fun hc => (hF.roN b hc).elim (hm'.sep id oc b hl hb).1 fun hc => hc (.inr ⟨id, oc, hl, hb⟩), (hm'.sep id oc b hl hb).2⟩, hm'.inj, hM.rob, fun b hb => Nat.lt_of_lt_of_le (hm.kb b hb) hF.size⟩
            have T0 : Two 0 keep E' { E' with M := E.M, N := E.N } ob objs' :=
              ⟨rfl, rfl, fun id hi => absurd hi (Nat.not_lt_zero _), Nat.zero_le _, hM.weaker fun _ h => .inl h, hM2, fun b ⟨id, oc, h1, h2⟩ hx => (hM.sep id oc b h1 h2).2 (.inr hx)⟩
            obtain ⟨vs', hvr, ev⟩ := hres
            obtain ⟨A1, B1, g, L, T1, N1, hs⟩ := relayAll outs T0 hvr.toS hpk
            have hN' : ({ E' with M := E.M, N := E.N } : Env).N = S.next := hN
            rw [hN'] at T1 N1 hs
            refine ⟨_, v, { S with objs := (layOut outs y ⟨objs', S.next⟩).2.objs, next := (layOut outs y ⟨objs', S.next⟩).2.next }, B1, rfl, T1.w.trans g.w, hL.trans L, T1.mb, N1, rfl, ResRep.one ⟨vs', hs, ev⟩, h⟩
          · cases h
      · rename_i fn body an he
        obtain ⟨h1, h2, h3⟩ := hE f _ he
        generalize reachN S.objs 6 (idsV.idsVs args) = ids at h
        have hin : Mems E (fun b => keep b ∨ Live E (outO ids S.objs) b) (inO ids S.objs) := by
          refine ⟨fun id oc hl => hm.rep id oc (look_inO hl).1, fun id oc b hl hb => ⟨(hm.sep _ _ _ (look_inO hl).1 hb).1, fun hk => ?_⟩, fun id id' oc oc' b hl hl' => hm.inj _ _ _ _ _ (look_inO hl).1 (look_inO hl').1, hm.rob, fun b hb => ?_⟩
          · rcases hk with hk | ⟨id', oc', h4, h5⟩
            · exact (hm.sep _ _ _ (look_inO hl).1 hb).2 hk
            · have := hm.inj _ _ _ _ _ (look_inO hl).1 (look_outO h4).1 hb h5
              subst this
              have h6 := (look_inO hl).2
              rw [(look_outO h4).2] at h6; cases h6
          · rcases hb with hb | ⟨id', oc', h4, h5⟩
            · exact hm.kb b hb
            · exact live_lt (hm.rep _ _ (look_outO h4).1).2 h5
        refine (body_sound (K := fun vs S' => K (oneOf vs) { S with objs := mergeO (outO ids S.objs) S'.objs, next := S'.next }) hT hP ih h1 h2 h hin hN hr).mono ?_
        rintro e w' ⟨us, v, S', E', rfl, rfl, hL, hM, hN', hres, hk⟩
        refine ⟨_, v, { S with objs := mergeO (outO ids S.objs) S'.objs, next := S'.next }, E', rfl, rfl, hL.weaker fun _ h => .inl h, ?_, hN', rfl, hres.one, hk⟩
        have hout : ∀ id oc, look id (outO ids S.objs) = some oc → id < E.N ∧ E'.M id = E.M id ∧ ORep E (E.M id) oc := fun id oc hl =>
          have h0 := hm.rep _ _ (look_outO hl).1
          ⟨h0.1, hL.M id h0.1, h0.2⟩
        have hnk : ∀ id oc b, look id (outO ids S.objs) = some oc → (E.M id).blk = some b → ¬ E'.ro b := fun id oc b hl hb hr' => by
          rcases hL.roN b hr' with h4 | h4
          · exact (hm.sep _ _ _ (look_outO hl).1 hb).1 h4
          · exact h4 (.inr ⟨id, oc, hl, hb⟩)
        refine ⟨fun id oc hl => ?_, fun id oc b hl hb => ?_, fun id id' oc oc' b hl hl' hb hb' => ?_, hM.rob, fun b hb => hM.kb b (.inl hb)⟩
        · rcases look_mergeO hl with hl | hl
          · obtain ⟨a1, a2, a3⟩ := hout id oc hl
            refine ⟨Nat.lt_of_lt_of_le a1 hL.N, ?_⟩
            rw [a2]
            exact ORep.later hL (fun b hb => hL.heapKeep b (.inr ⟨id, oc, hl, hb⟩)) a3
          · exact hM.rep _ _ hl
        · rcases look_mergeO hl with hl | hl
          · obtain ⟨a1, a2, a3⟩ := hout id oc hl
            rw [a2] at hb
            exact ⟨hnk id oc b hl hb, (hm.sep _ _ _ (look_outO hl).1 hb).2⟩
          · exact ⟨(hM.sep _ _ _ hl hb).1, fun hk => (hM.sep _ _ _ hl hb).2 (.inl hk)⟩
        · rcases look_mergeO hl with hl | hl <;> rcases look_mergeO hl' with hl' | hl'
          · rw [(hout id oc hl).2.1] at hb
            rw [(hout id' oc' hl').2.1] at hb'
            exact hm.inj _ _ _ _ _ (look_outO hl).1 (look_outO hl').1 hb hb'
          · rw [(hout id oc hl).2.1] at hb
            exact absurd (.inr ⟨id, oc, hl, hb⟩) (hM.sep _ _ _ hl' hb').2
          · rw [(hout id' oc' hl').2.1] at hb'
            exact absurd (.inr ⟨id', oc', hl', hb'⟩) (hM.sep _ _ _ hl hb).2
          · exact hM.inj _ _ _ _ _ hl hl' hb hb'
end
end Go.Rx
/- Contracts out of two runs: a slice that is nil, and one that is not. -/
namespace Go.Rx
/-- what a body comes to with given values for its arguments -/
noncomputable def evalA (T : Tab) (E : List (Nat × Callee)) (depth : Nat) (fn : Func) (body : Code) (ann : Ann) (args : List AV) (outs : List (Bool × Ty)) : Option (denL outs) :=
  codeK T (handler T E depth) body ann ⟨appA args (repA (.tup []) (fn.ntmps - lenA args)), [], 0⟩ fun e S' => match e with
    | .exit _ => none
    | _ => match resultsOf S' fn.results.toList T with
      | some vs => match packArgs outs vs S'.objs with
        | some (y, _) => some y
        | none => none
      | none => none

section
variable {P : Program} {T : Tab} (hT : TabOK P T)
include hT
theorem evalA_contract (hP : P.follows .mixedOrders = true) {Es : List (Nat × Callee)} {depth : Nat} (hH : HOK P (handler T Es depth)) {f : FuncId} {F : Func} {body : Code} (hf : P.funcs[f]? = some F) (hb : F.body = some body) (hname : (F.name == "runtime.NumGoroutine") = false)
    {an : Ann} {t : Ty} (ht : t.pure = true) {outs : List (Bool × Ty)} {fn : List (den t) → Option (denL outs)} (h1 : evalA T Es depth F body an [.nilsl] outs = fn []) (h2 : ∀ l, evalA T Es depth F body an [.slv t l] outs = fn l) :
    Contract P f [(false, .sl t)] outs fn := by
  refine ⟨⟨F, hf, hname, by rw [hb]; rfl⟩, fun x y hxy keep E vs vals objs objs' hm hr hp => ?_⟩
  match vs, hr, hp with
  | [v], hr, hp =>
    obtain ⟨xv, r, rfl, r1, r2⟩ := hr
    have r2 : r = [] := r2
    subst r2
    obtain ⟨E1, g, m1, t1, l1, hB⟩ := takeV_pure (t := (false, .sl t)) (by simpa [Ty.pure] using ht) hm r1 hp
    have hx1 : TRep E1 (.sl t) x [xv] := hB (m := ⟨[], 0⟩) t1
    let B : Env := { E1 with N := 0 }
    have hx2 : TRep B (.sl t) x [xv] := TRep.same (A := E1) (B := B) rfl rfl hx1
    have hwB : B.w = E.w := g.w
    have hlive : ∀ b, Live E objs' b → Live E1 objs' b := fun b ⟨id, oc, h1, h2⟩ => ⟨id, oc, h1, by rw [g.M]; exact h2⟩
    have hmB : Mems B (fun b => keep b ∨ Live E objs' b) [] :=
      ⟨fun id oc h => (nomatch h), fun id oc b h => (nomatch h), fun id id' oc oc' b h => (nomatch h), m1.rob, fun b hb => hb.elim (m1.kb b) fun hc => by
        obtain ⟨id, oc, h3, h4⟩ := hlive b hc
        exact live_lt (E := E1) (m1.rep _ _ h3).2 h4⟩
    have fin : ∀ (a : AV), SRep B a xv → evalA T Es depth F body an [a] outs = some y → Calls P f [xv].toArray E.w fun e w' => ∃ us v ob ob' E', e = .returned v ∧ E'.w = w' ∧ ResRep E' us v ∧ Mems E' (fun b => keep b ∨ Live E objs' b) ob ∧ packArgs outs us ob = some (y, ob') ∧
        Frame1 (fun b => keep b ∨ Live E objs' b) E E' := by
      intro a ha he
      unfold evalA at he
      rw [← hwB]
      refine (body_sound (K := fun vs S' => match packArgs outs vs S'.objs with
        | some (y, _) => some y
        | none => none) hT hP hH hf hb he hmB rfl ⟨xv, [], rfl, ha, rfl⟩).mono ?_
      rintro e w' ⟨us, v, S', E', rfl, rfl, hL, hM, hN, hres, hk⟩
      split at hk
      · rename_i y' ob' hpk
        cases hk
        refine ⟨us, v, S'.objs, ob', E', rfl, rfl, hres, hM, hpk, ⟨by rw [← hwB]; exact hL.out, fun b hb => hL.ro b (g.later.ro b hb), fun b hb => ?_, ?_, fun b hb => ?_, fun b hb => ?_⟩⟩
        · rcases hL.roN b hb with hb | hb
          · rcases g.later.roN b hb with h3 | h3
            · exact .inl h3
            · exact .inr fun hc => hc.elim h3 fun hc => by
                obtain ⟨id, oc, h4, h5⟩ := hlive b hc
                exact (m1.sep _ _ _ h4 h5).1 hb
          · exact .inr hb
        · rw [← hwB]; exact hL.size
        · rw [← hwB]; exact hL.heapRo b (g.later.ro b hb)
        · rw [← hwB]; exact hL.heapKeep b hb
      · cases hk
    obtain ⟨a, cap, e1, ⟨hc, hn⟩, hrest⟩ := hx2
    have e1 : xv = .slice a x.length cap := by simpa using e1
    cases a with
    | none =>
      have hx0 : x.length = 0 := hrest.elim id fun ⟨_, _, h, _⟩ => (nomatch h)
      have hxe : x = [] := List.length_eq_zero_iff.1 hx0
      have hcap := hn rfl
      refine fin .nilsl ?_ ?_
      · show [xv] = _
        rw [e1, hx0, hcap]
      · rw [h1, ← hxe]; exact hxy
    | some a =>
      refine fin (.slv t x) ?_ ?_
      · exact ⟨TRep.same (A := E1) (B := B) rfl rfl hx1, a, x.length, cap, by rw [e1]⟩
      · rw [h2]; exact hxy
end
end Go.Rx
/- A law's statement out of its contract: arguments are read as typed values; behind the call they read as before. -/
namespace Go.Rx

/-- values that a program may hold -/
def wf : (t : Ty) → den t → Prop
  | .int k, x => k.min ≤ x ∧ x ≤ k.max
  | .bool, _ => True
  | .str, s => s.size ≤ maxLen
  | .sl t, l => l.length ≤ maxLen ∧ ∀ x ∈ l, wf t x
  | .own t, l => l.length ≤ maxLen ∧ ∀ x ∈ l, wf t x
  | .unit, _ => True
  | .pair a b, x => wf a x.1 ∧ wf b x.2
  | .arr n t, l => l.length = n ∧ ∀ x ∈ l, wf t x
def wfL : (l : List (Bool × Ty)) → denL l → Prop
  | [], _ => True
  | [t], x => wf t.2 x
  | t :: t' :: r, x => wf t.2 x.1 ∧ wfL (t' :: r) x.2

def readsF (P : Program) (r : TypeId → Ty → Bool) : List Field → Nat → Ty → Bool
  | [], _, ty => match ty with
    | .unit => true
    | _ => false
  | f :: l, off, ty => match l with
    | [] => Nat.beq f.offset off && r f.type ty && Nat.beq (P.cellsOf f.type) (width ty)
    | _ :: _ => match ty with
      | .pair a b => Nat.beq f.offset off && r f.type a && Nat.beq (P.cellsOf f.type) (width a) && readsF P r l (off + width a) b
      | _ => false
/-- is a type of the program read as one of values? -/
def readsT (P : Program) : Nat → TypeId → Ty → Bool
  | 0, _, _ => false
  | n + 1, t, ty => match P.underlying t with
    | some .bool => (match ty with
      | .bool => true
      | _ => false)
    | some (.int k) => (match ty with
      | .int k' => decide (k = k')
      | _ => false)
    | some .string => (match ty with
      | .str => true
      | _ => false)
    | some (.slice e) => (match ty with
      | .sl t' => readsT P n e t' && Nat.beq (P.cellsOf e) (width t') && Nat.blt 0 (width t')
      | _ => false)
    | some (.array m e) => (match ty with
      | .arr m' t' => Nat.beq m m' && readsT P n e t' && Nat.beq (P.cellsOf e) (width t') && Nat.beq (P.cellsOf t) (m * width t')
      | _ => false)
    | some (.struct fs) => readsF P (readsT P n) fs.toList 0 ty && Nat.beq (P.cellsOf t) (width ty)
    | _ => false

theorem mapM_opt {α β : Type} {f : α → Option β} : ∀ {l : List α} {r : List β}, l.mapM f = some r → r.length = l.length ∧ ∀ (i : Nat) (a : α), l[i]? = some a → ∃ y, f a = some y ∧ r[i]? = some y
  | [], r, h => by
    simp only [List.mapM_nil] at h
    cases h
    exact ⟨rfl, fun i a h => by simp at h⟩
  | a :: l, r, h => by
    rw [List.mapM_cons] at h
    cases hf : f a with
    | none => rw [hf] at h; cases h
    | some y =>
      rw [hf] at h
      cases hl : l.mapM f with
      | none => rw [hl] at h; cases h
      | some ys =>
        rw [hl] at h
        cases h
        obtain ⟨h1, h2⟩ := mapM_opt hl
        refine ⟨by simp [h1], fun i b hb => ?_⟩
        cases i with
        | zero => cases hb; exact ⟨y, hf, rfl⟩
        | succ i => exact h2 i b (by simpa using hb)
theorem ex_list {α : Type} {p : Nat → α → Prop} : ∀ (n : Nat), (∀ i, i < n → ∃ x, p i x) → ∃ l : List α, l.length = n ∧ ∀ i, (h : i < l.length) → p i l[i]
  | 0, _ => ⟨[], rfl, fun i h => absurd h (Nat.not_lt_zero _)⟩
  | n + 1, h => by
    obtain ⟨l, hl, hp⟩ := ex_list n fun i hi => h i (Nat.lt_succ_of_lt hi)
    obtain ⟨x, hx⟩ := h n (Nat.lt_succ_self _)
    refine ⟨l ++ [x], by simp [hl], fun i hi => ?_⟩
    rcases Nat.lt_or_ge i l.length with h' | h'
    · rw [List.getElem_append_left h']; exact hp i h'
    · have : i = n := by simp at hi; omega
      subst this
      rw [List.getElem_append_right h']
      simpa [hl] using hx

theorem all_mem {α : Type} {q : α → Prop} {l : List α} (h : ∀ i, (hi : i < l.length) → q l[i]) : ∀ x ∈ l, q x := by
  intro x hx
  obtain ⟨i, hi, e⟩ := List.getElem_of_mem hx
  rw [← e]; exact h i hi

section
variable {H : Type} {enc : TypeId × Value → H} {P : Program} {E : Env} {base : Nat} {spare : Nat → Bool} {held : Bool}

theorem fields_rep {fuel : Nat} {r : TypeId → Ty → Bool} {cs : List Value}
    (ih : ∀ {t : TypeId} {ty : Ty} {vs : List Value} {d : DataW H × List MemPlace}, r t ty = true → DataW.trod enc P E.w base spare held fuel t vs = some d → ∃ x : den ty, TRep E ty x vs ∧ wf ty x) :
    ∀ (fs : List Field) (off : Nat) (ty : Ty), readsF P r fs off ty = true → (∀ f ∈ fs, ∃ y, DataW.trod enc P E.w base spare held fuel f.type ((cs.drop f.offset).take (P.cellsOf f.type)) = some y) →
      cs.length = off + width ty → ∃ x : den ty, TRep E ty x (cs.drop off) ∧ wf ty x
  | [], off, ty, h, _, hl => by
    cases ty with
    | unit =>
      refine ⟨(), ?_, trivial⟩
      show cs.drop off = []
      exact List.drop_eq_nil_of_le (by rw [hl]; exact Nat.le_refl _)
    | _ => cases h
  | [f], off, ty, h, hf, hl => by
    simp only [readsF, Bool.and_eq_true] at h
    obtain ⟨⟨h1, h2⟩, h3⟩ := h
    obtain ⟨y, hy⟩ := hf f List.mem_cons_self
    rw [Nat.eq_of_beq_eq_true h1, Nat.eq_of_beq_eq_true h3, List.take_of_length_le (by rw [List.length_drop, hl]; omega)] at hy
    exact ih h2 hy
  | f :: g :: l, off, ty, h, hf, hl => by
    cases ty with
    | pair a b =>
      simp only [readsF, Bool.and_eq_true] at h
      obtain ⟨⟨⟨h1, h2⟩, h3⟩, h4⟩ := h
      obtain ⟨y, hy⟩ := hf f List.mem_cons_self
      rw [Nat.eq_of_beq_eq_true h1, Nat.eq_of_beq_eq_true h3] at hy
      obtain ⟨x, hx, wx⟩ := ih h2 hy
      obtain ⟨z, hz, wz⟩ := fields_rep ih (g :: l) (off + width a) b h4 (fun f' hf' => hf f' (List.mem_cons_of_mem _ hf')) (by rw [hl]; simp only [width]; omega)
      refine ⟨(x, z), ⟨(cs.drop off).take (width a), cs.drop (off + width a), ?_, hx, hz⟩, wx, wz⟩
      rw [← List.drop_drop, List.take_append_drop]
    | _ => cases h

theorem cells_get {a : Addr} {n : Nat} {cs : List Value} (h : E.w.cells? base a n = some cs) : cs.length = n ∧ ∀ j v, cs[j]? = some v → E.w.cell? (a.add j) = some v := by
  unfold World.cells? at h
  split at h
  · obtain ⟨h1, h2⟩ := mapM_opt h
    rw [List.length_range] at h1
    refine ⟨h1, fun j v hj => ?_⟩
    have hlt : j < n := by rw [← h1]; exact (List.getElem?_eq_some_iff.1 hj).1
    obtain ⟨y, h3, h4⟩ := h2 j j (by simp [hlt])
    rw [hj] at h4; cases h4
    exact h3
  · cases h
theorem add_add {b o : Nat} (n m : Nat) : ((⟨b, o, none⟩ : Addr).add n).add m = ⟨b, o + n + m, none⟩ := by
  unfold Addr.add
  split <;> split <;> simp_all

theorem trod_rep (hro : ∀ b, b < E.w.heap.size → E.ro b) : ∀ (n fuel : Nat) {t : TypeId} {ty : Ty} {cs : List Value} {d : DataW H × List MemPlace}, readsT P n t ty = true → DataW.trod enc P E.w base spare held fuel t cs = some d →
    ∃ x : den ty, TRep E ty x cs ∧ wf ty x
  | 0, _, _, _, _, _, h, _ => nomatch h
  | n + 1, fuel, t, ty, cs, d, h, hd => by
    unfold readsT at h
    split at h
    · rename_i hu
      obtain ⟨b, rfl, _⟩ := DataW.trod_bool hu hd
      cases ty with
      | bool => exact ⟨b, rfl, trivial⟩
      | _ => cases h
    · rename_i k hu
      obtain ⟨m, rfl, _, hw⟩ := DataW.trod_int hu hd
      cases ty with
      | int k' =>
        have hk : k = k' := of_decide_eq_true h
        subst hk
        refine ⟨m, rfl, ?_⟩
        simpa [Lit.wf, wf] using hw
      | _ => cases h
    · rename_i hu
      obtain ⟨s, rfl, _, hs⟩ := DataW.trod_string hu hd
      cases ty with
      | str => exact ⟨s, rfl, hs⟩
      | _ => cases h
    · rename_i e hu
      cases ty with
      | sl t' =>
        simp only [Bool.and_eq_true] at h
        obtain ⟨⟨h1, h2⟩, h3⟩ := h
        have h2 := Nat.eq_of_beq_eq_true h2
        have h3 : 0 < width t' := by simpa [Nat.blt_eq] using h3
        rcases DataW.trod_slice hu hd with ⟨rfl, _⟩ | ⟨a, len, cap, elems, rest, m, _, rfl, _, hb, hlc, hcm, hel, hget, _⟩
        · exact ⟨[], ⟨none, 0, rfl, ⟨Nat.le_refl _, fun _ => rfl⟩, .inl rfl⟩, Nat.zero_le _, fun x hx => nomatch hx⟩
        · rw [h2] at hget
          have each : ∀ i, i < len → ∃ cs', E.w.cells? base (a.add (i * width t')) (width t') = some cs' ∧ ∃ x : den t', TRep E t' x cs' ∧ wf t' x := by
            intro i hi
            have := hget i hi
            have hlt : i < elems.length := by rw [hel]; exact hi
            rw [List.getElem?_eq_getElem hlt, Option.bind_eq_some_iff] at this
            obtain ⟨cs', h4, h5⟩ := this
            exact ⟨cs', h4, trod_rep hro n m h1 h5⟩
          obtain ⟨l, hl, hp⟩ := ex_list (p := fun i (x : den t') => ∃ cs', E.w.cells? base (a.add (i * width t')) (width t') = some cs' ∧ TRep E t' x cs' ∧ wf t' x) len fun i hi => by
            obtain ⟨cs', h4, x, h5, h6⟩ := each i hi
            exact ⟨x, cs', h4, h5, h6⟩
          refine ⟨l, ⟨some a, cap, by rw [hl], ⟨by rw [hl]; exact hlc, fun h => nomatch h⟩, ?_⟩, by rw [hl]; omega, all_mem fun i hi => (hp i hi).choose_spec.2.2⟩
          rcases Nat.eq_zero_or_pos l.length with h0 | h0
          · exact .inl h0
          · right
            obtain ⟨cs', h4, h5, _⟩ := hp 0 h0
            obtain ⟨h6, h7⟩ := cells_get h4
            have h8 := h7 0 (cs'[0]'(by omega)) (List.getElem?_eq_getElem _)
            have ha : a.spot = none ∧ a.block < E.w.heap.size := by
              simp only [Nat.zero_mul, Addr.add, if_true, World.cell?] at h8
              split at h8
              · rename_i c _ _ hc
                split at h8
                · cases h8
                · rename_i hs
                  exact ⟨by simpa using hs, (Array.getElem?_eq_some_iff.1 hc).1⟩
              · cases h8
            obtain ⟨b, o, sp⟩ := a
            obtain ⟨rfl, hlt⟩ := ha
            refine ⟨b, o, rfl, hro b hlt, fun i hi => ?_⟩
            obtain ⟨cs', h4, h5, _⟩ := hp i hi
            refine ⟨cs', h5, fun j v hj => ?_⟩
            have := (cells_get h4).2 j v hj
            rwa [add_add] at this
      | _ => cases h
    · rename_i m e hu
      cases ty with
      | arr m' t' =>
        simp only [Bool.and_eq_true] at h
        obtain ⟨⟨⟨h0, h1⟩, h2⟩, h3⟩ := h
        have h0 := Nat.eq_of_beq_eq_true h0
        have h2 := Nat.eq_of_beq_eq_true h2
        have h3 := Nat.eq_of_beq_eq_true h3
        subst h0
        obtain ⟨xs, f, _, _, hlen, hx, hget⟩ := DataW.trod_array hu hd
        rw [h2] at hget
        obtain ⟨l, hl, hp⟩ := ex_list (p := fun i (x : den t') => TRep E t' x ((cs.drop (i * width t')).take (width t')) ∧ wf t' x) m fun i hi => by
          have := hget i hi
          have hlt : i < xs.length := by rw [hx]; exact hi
          rw [List.getElem?_eq_getElem hlt] at this
          exact trod_rep hro n f h1 this
        refine ⟨l, ⟨hl, by rw [hlen, h3], fun i hi => ⟨_, (hp i hi).1, fun j v hj => ?_⟩⟩, hl, all_mem fun i hi => (hp i hi).2⟩
        rw [List.getElem?_take] at hj
        split at hj
        · rwa [List.getElem?_drop] at hj
        · cases hj
      | _ => cases h
    · rename_i fs hu
      simp only [Bool.and_eq_true] at h
      obtain ⟨h1, h2⟩ := h
      obtain ⟨xs, f, _, _, hlen, hx, hget⟩ := DataW.trod_struct hu hd
      have := fields_rep (enc := enc) (P := P) (E := E) (base := base) (spare := spare) (held := held) (fuel := f) (cs := cs) (fun {t ty vs d} h3 h4 => trod_rep hro n f h3 h4) fs.toList 0 ty h1 (fun fl hfl => by
        obtain ⟨i, hi, e⟩ := List.getElem_of_mem hfl
        have h5 : fs[i]? = some fl := by rw [← e]; simp at hi ⊢
        have h6 := hget i fl h5
        have h7 : i < xs.length := by rw [hx]; simpa using hi
        rw [List.getElem?_eq_getElem h7] at h6
        exact ⟨_, h6⟩) (by rw [hlen, Nat.zero_add]; exact Nat.eq_of_beq_eq_true h2)
      simpa using this
    · cases h

def aggT (P : Program) (t : TypeId) : Bool :=
  match P.underlying t with
  | some (.struct _) => true
  | some (.array ..) => true
  | _ => false
def readsA (P : Program) (n : Nat) (t : TypeId) (a : Bool × Ty) : Bool :=
  readsT P n t a.2 && a.2.pure && a.2.okp && (a.1 || a.2.scalar) && (aggT P t == a.1)
def readsL (P : Program) (n : Nat) : List TypeId → List (Bool × Ty) → Bool
  | [], [] => true
  | t :: ts, a :: l => readsA P n t a && readsL P n ts l
  | _, _ => false

theorem arg_rep (hro : ∀ b, b < E.w.heap.size → E.ro b) {n : Nat} {t : TypeId} {a : Bool × Ty} {v : Value} {d : DataW H} {p : List MemPlace} {m : Mem} {r : Reach} {w : World} {b0 : Nat} {ob : Objs} (h : readsA P n t a = true)
    (hv : Value.okWide P w r b0 t v) (hd : DataW.Trod enc P E.w base spare held t v d p) : ∃ x : den a.2, wf a.2 x ∧ SRep E (layOne a x m).1 v ∧ takeV a (layOne a x m).1 ob = some (x, ob) ∧ (layOne a x m).2 = m := by
  obtain ⟨agg, ty⟩ := a
  simp only [readsA, Bool.and_eq_true] at h
  obtain ⟨⟨⟨⟨h1, h2⟩, h3⟩, h4⟩, h5⟩ := h
  obtain ⟨fuel, hd⟩ := hd
  obtain ⟨x, hx, wx⟩ := trod_rep hro n fuel h1 hd
  have hl := laid_pure ty x m h2
  have henc := toTy_enc ty x [] ob h2
  rw [appA_nil] at henc
  refine ⟨x, wx, ?_, ?_, by show (laid ty x m).2 = m; rw [hl]⟩
  · cases agg with
    | true =>
      have : ∃ cs, v = .agg cs := by
        unfold aggT at h5
        unfold Value.okWide at hv
        split at h5
        · rename_i fs hu
          rw [hu] at hv
          obtain ⟨cs, e, _⟩ := hv
          exact ⟨cs, e⟩
        · rename_i hu
          rw [hu] at hv
          obtain ⟨cs, e, _⟩ := hv
          exact ⟨cs, e⟩
        · cases h5
      obtain ⟨cs, rfl⟩ := this
      have he : (layOne (true, ty) x m).1 = .agg (Rx.enc ty x) := by show AV.agg (laid ty x m).1 = _; rw [hl]
      rw [he]
      exact ⟨cs.toList, by simp, enc_rep hx⟩
    | false =>
      have hsc : ty.scalar = true := by simpa using h4
      obtain ⟨c, ec, hcell⟩ := laid_scalar (x := x) (m := m) hsc
      have he : (layOne (false, ty) x m).1 = c := by show headA (laid ty x m).1 = c; rw [ec]; rfl
      have hvc : v.cells = #[v] := by
        unfold aggT at h5
        cases v with
        | agg cs =>
          exfalso
          unfold Value.okWide at hv
          split at h5
          · cases h5
          · cases h5
          · rename_i q1 q2
            cases hu : P.underlying t with
            | none => rw [hu] at hv; simp [Cell.okWide, Cell.ok, hu] at hv
            | some u =>
              rw [hu] at hv
              cases u <;> first
                | exact q1 _ hu
                | exact q2 _ _ hu
                | simp [Cell.okWide, Cell.ok, hu] at hv
        | _ => rfl
      rw [he]
      rw [hvc] at hx
      have h6 := enc_rep hx
      have h7 : Rx.enc ty x = [c] := by rw [← ec, hl]
      rw [h7] at h6
      obtain ⟨u, r', e1, e2, e3⟩ := h6
      have e3 : r' = [] := e3
      rw [e3, List.append_nil] at e1
      rw [← e1] at e2
      have e2 : CRep E c [v] := by simpa using e2
      exact (CRep.toV e2 (by cases c <;> first | rfl | (simp [isCell] at hcell)) (fun n t l e => by rw [e] at hcell; simp [isCell] at hcell)).toS
  · show (bif ty.okp && fitsA agg (if agg then .agg (laid ty x m).1 else headA (laid ty x m).1) && (agg || ty.scalar) then asTy ty (if agg then .agg (laid ty x m).1 else headA (laid ty x m).1) ob else none) = some (x, ob)
    cases agg with
    | true => simp [h3, fitsA, asTy, cellsOf, hl, henc]
    | false =>
      have hsc : ty.scalar = true := by simpa using h4
      obtain ⟨c, ec, hcell⟩ := laid_scalar (x := x) (m := m) hsc
      rw [← show (laid ty x m).1 = Rx.enc ty x from by rw [hl], ec] at henc
      have hco : cellsOf c = some [c] := by cases c <;> first | (simp [isCell] at hcell; done) | rfl
      have hfi : fitsA false c = true := by cases c <;> first | (simp [isCell] at hcell; done) | rfl
      simp [h3, hsc, ec, headA, hfi, asTy, hco, henc]

theorem args_rep (hro : ∀ b, b < E.w.heap.size → E.ro b) {n : Nat} {r : Reach} {w : World} {b0 : Nat} {m : Mem} {ob : Objs} : ∀ {ts : List TypeId} {ins : List (Bool × Ty)} {vs : List Value} {ds : List (DataW H)} {ps : List MemPlace}, readsL P n ts ins = true →
    (∀ (j : Nat) t v, ts[j]? = some t → vs[j]? = some v → Value.okWide P w r b0 t v) → DataW.TrodAll enc P E.w base spare held ts vs ds ps →
      ∃ x : denL ins, wfL ins x ∧ SRepL E (layAll ins x m).1 vs ∧ packArgs ins (layAll ins x m).1 ob = some (x, ob)
  | [], [], [], _, _, _, _, _ => ⟨(), trivial, rfl, rfl⟩
  | [t], [a], [v], [d], _, h, hv, hd => by
    obtain ⟨p, q, h1, h2, _⟩ := hd
    simp only [readsL, Bool.and_eq_true] at h
    obtain ⟨x, w1, w2, w3, _⟩ := arg_rep (m := m) (ob := ob) hro h.1 (hv 0 t v rfl rfl) h1
    exact ⟨x, w1, ⟨v, [], rfl, w2, rfl⟩, w3⟩
  | t :: t' :: ts, a :: a' :: l, v :: vs, d :: ds, _, h, hv, hd => by
    obtain ⟨p, q, h1, h2, _⟩ := hd
    rw [readsL, Bool.and_eq_true] at h
    obtain ⟨x, w1, w2, w3, w4⟩ := arg_rep (m := m) (ob := ob) hro h.1 (hv 0 t v rfl rfl) h1
    obtain ⟨y, y1, y2, y3⟩ := args_rep (m := m) (ob := ob) hro h.2 (fun j t v h h' => hv (j + 1) t v (by simpa using h) (by simpa using h')) h2
    refine ⟨(x, y), ⟨w1, y1⟩, ?_, ?_⟩
    · show SRepL E ((layOne a x m).1 :: (layAll (a' :: l) y (layOne a x m).2).1) (v :: vs)
      rw [w4]
      exact ⟨v, vs, rfl, w2, y2⟩
    · show packArgs (a :: a' :: l) ((layOne a x m).1 :: (layAll (a' :: l) y (layOne a x m).2).1) ob = some ((x, y), ob)
      rw [w4]
      simp only [packArgs, w3, y3]
  | [], _ :: _, _, _, _, h, _, _ => nomatch h
  | _ :: _, [], _, _, _, h, _, _ => nomatch h
  | [], [], _ :: _, [], _, _, _, h => nomatch h
  | [], [], _ :: _, _ :: _, _, _, _, h => nomatch h
  | _ :: _, _ :: _, [], [], _, _, _, h => nomatch h
  | _ :: _, _ :: _, [], _ :: _, _, _, _, h => nomatch h
  | _ :: _, _ :: _, _ :: _, [], _, _, _, h => nomatch h
  | [_], _ :: _ :: _, _ :: _, _ :: _, _, h, _, _ => by simp [readsL] at h
  | _ :: _ :: _, [_], _ :: _, _ :: _, _, h, _, _ => by simp [readsL] at h
  | [_], [_], _ :: _ :: _, [_], _, _, _, h => by obtain ⟨_, _, _, h, _⟩ := h; exact h.elim
  | [_], [_], _ :: _ :: _, _ :: _ :: _, _, _, _, h => by obtain ⟨_, _, _, h, _⟩ := h; exact h.elim
  | [_], [_], [_], _ :: _ :: _, _, _, _, h => by obtain ⟨_, _, _, h, _⟩ := h; exact h.elim

/-- where the memory that was there is as it was, and the answer is true, the law holds -/
theorem post_of_quiet {f : Func} {s : ChangeSpec} {fresh handsOn again : Bool} {W W' : World} {args : Array Value} {ds : List (DataW H)} {before : List MemPlace} {tb : TypeId} (hl : laidOutB P = true)
    (hread : f.params.toList.all (fun t => P.readableRec t && decide (t < P.types.size)) = true) (hvars : s.vars = [])
    (hW : DataW.Whole enc P f.params.toList [] false W args.toList ds [] before) (hs : s.fn H (ds ++ []) = { results := [.lit (.bool true)], args := ds })
    (hsame : ∀ b, b < W.heap.size → W'.heap[b]? = W.heap[b]?) (hq : Quiet W W') (hr : f.resultTypes = #[tb]) (hb : P.underlying tb = some .bool) :
    s.post enc P f false fresh handsOn again W args (.bool true) W' := by
  have hlt : ∀ p ∈ before, p.block < W.heap.size := fun p hp => hW.lt p hp
  obtain ⟨p, q, hA, hV, e, hz, hn⟩ := hW
  have hq0 : q = [] := hV
  subst hq0
  rw [List.append_nil] at e
  have e : p = before := e.symm
  subst e
  have key : ∀ {ts : List TypeId} {vs : List Value} {ds : List (DataW H)} {ps : List MemPlace} {sp : Nat → Bool}, (∀ t ∈ ts, P.readableRec t = true ∧ t < P.types.size) → (∀ p ∈ ps, p.block < W.heap.size) → (∀ p ∈ ps, sp p.block = true) →
      DataW.TrodAll enc P W 0 (fun _ => true) true ts vs ds ps → DataW.TrodAll enc P W' 0 sp true ts vs ds ps := by
    intro ts
    induction ts with
    | nil =>
      intro vs ds ps sp _ _ _ h
      match vs, ds, h with
      | [], [], h => exact h
    | cons t ts ih =>
      intro vs ds ps sp ht hp hsp h
      match vs, ds, h with
      | v :: vs, d :: ds, ⟨p1, q1, h1, h2, e⟩ =>
        subst e
        obtain ⟨g1, g2⟩ := ht t List.mem_cons_self
        refine ⟨p1, q1, WideElems.Trod_stays hl g1 g2 h1 (fun x hx => ?_) (fun x hx => hsp x (List.mem_append_left _ hx)), ih (fun t h => ht t (List.mem_cons_of_mem _ h)) (fun x hx => hp x (List.mem_append_right _ hx)) (fun x hx => hsp x (List.mem_append_right _ hx)) h2, rfl⟩
        have hx' := hp x (List.mem_append_left _ hx)
        cases x with
        | cell b o => exact World.cell?_of_block (w := W) (hsame b hx')
        | map b => exact hsame b hx'
  have hts : ∀ t ∈ f.params.toList, P.readableRec t = true ∧ t < P.types.size := fun t ht => by
    have := List.all_eq_true.1 hread t ht
    simpa using this
  have hargs : ∀ sp : Nat → Bool, (∀ x ∈ p, sp x.block = true) → DataW.TrodAll enc P W' 0 sp true f.params.toList args.toList (s.fn H (ds ++ [])).args p := fun sp hsp => by
    rw [hs]; exact key hts hlt hsp hA
  have hres : ∀ (b : Nat) (sp : Nat → Bool) (hd : Bool), DataW.TrodAll enc P W' b sp hd f.resultTypes.toList ((Value.bool true).resultList f.resultTypes.size) (s.fn H (ds ++ [])).results [] := fun b sp hd => by
    rw [hs, hr]
    exact ⟨[], [], RowKit.shut_bool hb true, rfl, rfl⟩
  have hold : ∀ x ∈ p, (fun b => decide (b < W.heap.size)) x.block = true := fun x hx => by simpa using hlt x hx
  have hvv : ∀ sp : Nat → Bool, DataW.TrodVars enc P W' sp s.vars (s.fn H (ds ++ [])).vars [] := fun sp => by rw [hs, hvars]; exact rfl
  refine ⟨ds, [], p, [], p, [], ?_, hres _ _ _, hargs _ hold, hvv _, ⟨hq.1, hq.2, fun i hi => ?_⟩, fun _ => ?_⟩
  · rw [hvars]
    exact ⟨p, [], hA, rfl, by simp, hz, hn⟩
  · rw [hsame i hi]
    cases W.heap[i]? with
    | none => rfl
    | some o => cases o <;> simp
  · refine ⟨RowKit.ok_one hr rfl (by simp [Value.okWide, Cell.okWide, Cell.ok, hb]), _, _, ([] ++ p) ++ [], ⟨[] ++ p, [], ChangeShapes.trodAll_append (hargs _ (fun _ _ => rfl)) (hres _ _ _), hvv _, rfl, ?_, ?_⟩, ?_⟩
    · intro b off hp
      have hp : MemPlace.cell b off ∈ p := by simpa using hp
      have h1 := hlt _ hp
      have h2 := hz b off hp
      unfold World.frozen? at h2 ⊢
      rw [hsame b h1]
      exact h2
    · intro ha; cases ha
    · intro x hx _
      simpa using hx

def callsOK (P : Program) : List (Nat × Callee) → Prop
  | [] => True
  | (f, c) :: l => CalleeOK P f c ∧ callsOK P l
theorem callsOK_get : ∀ {l : List (Nat × Callee)}, callsOK P l → ∀ f c, eget f l = some c → CalleeOK P f c
  | [], _, f, c, h => nomatch h
  | (j, d) :: l, hl, f, c, h => by
    simp only [eget] at h
    rcases bif_some h with ⟨h0, h⟩ | ⟨_, h⟩
    · cases h
      rw [← Nat.eq_of_beq_eq_true h0]
      exact hl.1
    · exact callsOK_get hl.2 f c h

/-- A law: its contract, and that what it computes is true, whatever the values. -/
theorem law_calls {f : FuncId} {F : Func} {ins : List (Bool × Ty)} {fn : denL ins → Option Bool} (hC : Contract P f ins [(false, .bool)] fn) {n : Nat} (hreads : readsL P n F.params.toList ins = true)
    (hlaw : ∀ x, wfL ins x → fn x = some true) (hl : laidOutB P = true) (hread : F.params.toList.all (fun t => P.readableRec t && decide (t < P.types.size)) = true) {tb : TypeId} (hr : F.resultTypes = #[tb])
    (hb : P.underlying tb = some .bool) {s : ChangeSpec} (hvars : s.vars = []) (hs : ∀ ds : List (DataW H), ds.length = F.params.size → s.fn H ds = { results := [.lit (.bool true)], args := ds })
    {W : World} {base : Nat} {args : Array Value} {ds gs : List (DataW H)} {before : List MemPlace} {fresh handsOn again : Bool}
    (hval : ∀ (j : Nat) t v, F.params[j]? = some t → args[j]? = some v → Value.okWide P W .any base t v)
    (hW : DataW.Whole enc P F.params.toList s.vars false W args.toList ds gs before) :
    Calls P f args W fun e W' => ∃ v, e = .returned v ∧ s.post enc P F false fresh handsOn again W args v W' := by
  rw [hvars] at hW
  have hW0 := hW
  obtain ⟨p, q, hA, hV, e, hz, hn⟩ := hW
  have hgs : gs = [] := by
    cases gs with
    | nil => rfl
    | cons => cases hV
  subst hgs
  let E0 : Env := { w := W, ro := fun b => b < W.heap.size, M := fun _ => ⟨none, 0, 0, 0, 0⟩, N := 0 }
  obtain ⟨x, wx, hrep, hpk⟩ := args_rep (E := E0) (m := ⟨[], 0⟩) (ob := []) (fun b hb => hb) hreads (fun j t v h1 h2 => hval j t v (by simpa using h1) (by simpa using h2)) hA
  have hm : Mems E0 (fun _ => False) [] := ⟨fun id oc h => (nomatch h), fun id oc b h => (nomatch h), fun id id' oc oc' b h => (nomatch h), fun b h => h, fun b h => h.elim⟩
  have hcall := hC.ok x true (hlaw x wx) (fun _ => False) E0 _ args.toList [] [] hm hrep hpk
  have hargs : args.toList.toArray = args := by simp
  rw [hargs] at hcall
  refine hcall.mono ?_
  rintro ex W' ⟨us, v, ob, ob', E', rfl, rfl, hres, _, hpk', hF⟩
  have hv : v = .bool true := by
    obtain ⟨vs, h1, h2⟩ := hres
    match us, h1, hpk' with
    | [a], h1, hpk' =>
      obtain ⟨x, r, rfl, r1, r2⟩ := h1
      have r2 : r = [] := r2
      subst r2
      have h3 : v = x := by rw [h2]; simp
      subst h3
      simp only [packArgs, takeV] at hpk'
      rcases bif_some hpk' with ⟨h0, h4⟩ | ⟨_, h4⟩
      · cases a with
        | bool b =>
          simp [asTy, cellsOf, toTy] at h4
          rw [← h4.1]
          have : CRep E' (.bool b) [v] := r1
          have h5 : [v] = [Value.bool b] := this
          simpa using h5
        | agg cs => simp [fitsA] at h0
        | _ => simp [asTy, cellsOf, toTy] at h4
      · cases h4
  subst hv
  have hlen : ds.length = F.params.size := by
    have : ∀ {ts : List TypeId} {vs : List Value} {ds : List (DataW H)} {ps : List MemPlace}, DataW.TrodAll enc P W 0 (fun _ => true) true ts vs ds ps → ds.length = ts.length := by
      intro ts
      induction ts with
      | nil =>
        intro vs ds ps h
        match vs, ds, h with
        | [], [], _ => rfl
      | cons t ts ih =>
        intro vs ds ps h
        match vs, ds, h with
        | v :: vs, d :: ds, ⟨_, _, _, h2, _⟩ => simp [ih h2]
    simpa using this hA
  exact ⟨_, rfl, post_of_quiet hl hread hvars hW0 (by rw [List.append_nil]; exact hs ds hlen) (fun b hb => hF.heapRo b hb) hF.out hr hb⟩
end
end Go.Rx
