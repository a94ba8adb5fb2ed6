/- Parts of a proof: evaluation of Go code over typed values, and what it computes. -/
import Derived.Test.YtafinkfeghghkaaDoorX3
import Derived.Laws.Externs
import Derived.Test.YtafinkfeghghkaaDoorX1
import Derived.ChangeSame
import Derived.Carry
import Derived.OpenShut
import Derived.LaidLaws
import Derived.LaidHandle
import Derived.LaidMore
import Derived.MakeChecks
import Derived.FnData
import Derived.Below
import Derived.Lib.LaidTab
set_option linter.unusedSimpArgs false
set_option linter.unusedVariables false
set_option linter.unusedSectionVars false
namespace Go.Rx
variable [Inhabited GW]
structure Frame1 (keep : Nat → Prop) (E E' : Env) : Prop where
 out : Quiet E.w E'.w
 ro : ∀ b, E.ro b → E'.ro b
 roN : ∀ b, E'.ro b → E.ro b ∨ ¬ keep b
 size : E.w.heap.size ≤ E'.w.heap.size
 heapRo : ∀ b, E.ro b → E'.w.heap[b]? = E.w.heap[b]?
 heapKeep : ∀ b, keep b → E'.w.heap[b]? = E.w.heap[b]?
def ResRep (E : Env) (us : List AV) (v : Value) : Prop := ∃ vs : List Value, VRepL E us vs ∧ v = (if h : vs.toArray.size = 1 then vs.toArray[0] else .tuple vs.toArray)
theorem ResRep.one {E : Env} {us : List AV} {v : Value} (h : ResRep E us v) : SRep E (oneOf us) v := by
 obtain ⟨vs, hr, e⟩ := h
 subst e
 match us, hr with
 | [], hr => rw [show vs = [] from hr]; exact ⟨[], rfl, rfl⟩
 | [a], hr =>
  obtain ⟨x, r, rfl, r1, r2⟩ := hr
  rw [show r = [] from r2]
  exact r1.toS
 | a :: b :: l, hr =>
  obtain ⟨x, r, rfl, r1, y, r', rfl, r2, r3⟩ := hr
  rw [dif_neg (by simp)]
  exact ⟨_, rfl, x, _, rfl, r1, y, _, rfl, r2, r3⟩
structure Contract (P : Program) (f : FuncId) (ins outs : List (Bool × Ty)) (fn : denL ins → Option (denL outs)) : Prop where
 has : ∃ F, P.funcs[f]? = some F ∧ (F.name == "runtime.NumGoroutine") = false ∧ F.body.isNone = false
 ok : ∀ (x : denL ins) (y : denL outs), fn x = some y → ∀ (keep : Nat → Prop) (E : Env) (vs : List AV) (vals : List Value) (objs objs' : Objs), Mems E keep objs → SRepL E vs vals → packArgs ins vs objs = some (x, objs') →
  Calls P f vals.toArray E.w fun e w' => ∃ us v ob ob' E', e = .returned v ∧ E'.w = w' ∧ ResRep E' us v ∧ Mems E' (fun b => keep b ∨ Live E objs' b) ob ∧ packArgs outs us ob = some (y, ob') ∧
   Frame1 (fun b => keep b ∨ Live E objs' b) E E'
section
variable {P : Program} {T : Tab} (hT : TabOK P T) {keep : Nat → Prop}
theorem SRepL.later {E E' : Env} (hL : Later keep E E') : ∀ {l : List AV} {vs : List Value}, SRepL E l vs → SRepL E' l vs
 | [], _, r => r
 | a :: l, vs, r => by
  obtain ⟨v, s, e, r1, r2⟩ := r
  exact ⟨v, s, e, SRep.later hL r1, SRepL.later hL r2⟩
theorem VRepL.toS {E : Env} : ∀ {l : List AV} {vs : List Value}, VRepL E l vs → SRepL E l vs
 | [], _, r => r
 | a :: l, vs, r => by
  obtain ⟨v, s, e, r1, r2⟩ := r
  exact ⟨v, s, e, r1.toS, VRepL.toS r2⟩
theorem relayAll {n : Nat} : ∀ (l : List (Bool × Ty)) {A B : Env} {oa ob oa' : Objs} {vs : List AV} {vals : List Value} {x : denL l}, Two n keep A B oa ob → SRepL A vs vals → packArgs l vs oa = some (x, oa') →
  ∃ A' B', Given keep A A' ∧ Later keep B B' ∧ Two n keep A' B' oa' (layAll l x ⟨ob, B.N⟩).2.objs ∧ B'.N = (layAll l x ⟨ob, B.N⟩).2.next ∧ VRepL B' (layAll l x ⟨ob, B.N⟩).1 vals
 | [], A, B, oa, ob, oa', vs, vals, x, h, hr, hp => by
  cases vs with
  | nil => cases hp; exact ⟨A, B, Given.refl _ _, Later.refl _ _, h, rfl, hr⟩
  | cons => cases hp
 | [t], A, B, oa, ob, oa', vs, vals, x, h, hr, hp => by
  match vs, hr, hp with
  | [v], hr, hp =>
   obtain ⟨xv, r, rfl, r1, r2⟩ := hr
   obtain ⟨A1, B1, g, L, T1, N1, hs⟩ := relayV h r1 hp
   exact ⟨A1, B1, g, L, T1, N1, xv, r, rfl, hs, r2⟩
 | t :: t' :: l, A, B, oa, ob, oa', vs, vals, x, h, hr, hp => by
  match vs, hr, hp with
  | v :: vs, hr, hp =>
   obtain ⟨xv, r, rfl, r1, r2⟩ := hr
   simp only [packArgs] at hp
   split at hp
   ·rename_i y oa1 h1
    split at hp
    ·rename_i ys oa2 h2
     cases hp
     obtain ⟨A1, B1, g1, L1, T1, N1, hs1⟩ := relayV h r1 h1
     obtain ⟨A2, B2, g2, L2, T2, N2, hs2⟩ := relayAll (t' :: l) T1 (SRepL.later g1.later r2) h2
     rw [N1] at T2 N2 hs2
     exact ⟨A2, B2, g1.trans g2, L1.trans L2, T2, N2, xv, r, rfl, VRep.later L2 hs1, hs2⟩
    ·cases hp
   ·cases hp
def resF (tmps : Array Value) : ResultVar → Sem Value
 | .tmp t => pure (tmps.getD t undef)
 | .cell p t => do loadVar t (← asAddr (tmps.getD p undef))
include hT
theorem results_sound {keep : Nat → Prop} {z : Nat} {S : St} {a : Act} {E : Env} (hR : Rel keep z S a E) (fn : Func) {vs : List AV} (h : resultsOf S fn.results.toList T = some vs) :
  ∃ v, (results fn a.tmps).run P E.w = .ok v E.w ∧ ResRep E vs v := by
 have key : ∀ (l : List ResultVar) (vs : List AV), resultsOf S l T = some vs → ∃ us : List Value, (l.mapM (resF a.tmps)).run P E.w = .ok us E.w ∧ VRepL E vs us := by
  intro l
  induction l with
  | nil => intro vs h; cases h; exact ⟨[], by simp, rfl⟩
  | cons x l ih =>
   intro vs h
   cases x with
   | tmp t =>
    simp only [resultsOf] at h
    have hv := ev_rep hR.slots (.tmp t)
    have hev : ev S (.tmp t) = getA S.tmps t := rfl
    rw [hev] at hv
    split at h
    ·cases h
    ·rename_i v hnt
     obtain ⟨vs', h1, rfl⟩ := oM_some h
     obtain ⟨us, h2, h3⟩ := ih _ h1
     have ht : (getA S.tmps t).isTup = false := by
      cases hg : getA S.tmps t <;> first
       | rfl
       | exact absurd hg (hnt _)
     refine ⟨a.tmps.getD t undef :: us, ?_, _, us, rfl, (SRep.iff_V ht).1 hv, h3⟩
     rw [List.mapM_cons, Sem.run_bind]
     simp only [resF, Sem.run_pure, Result.andThen_ok, Sem.run_bind]
     rw [h2]; rfl
   | cell p t =>
    simp only [resultsOf] at h
    split at h
    ·rename_i v hl
     obtain ⟨vs', h1, rfl⟩ := oM_some h
     obtain ⟨us, h2, h3⟩ := ih _ h1
     have hx := ev_rep hR.slots (.tmp p)
     have hev : ev S (.tmp p) = getA S.tmps p := rfl
     rw [hev] at hx
     obtain ⟨y, h4, h5⟩ := loadV_sound hT hR.mems (show (loadV T S t (getA S.tmps p)).gives v by rw [hl]; rfl) hx
     have h6 : (do loadVar t (← asAddr (a.tmps.getD p undef)) : Sem Value).run P E.w = .ok y E.w := by
      have e : a.eval (.tmp p) = a.tmps.getD p undef := rfl
      rw [e] at h4
      generalize a.tmps.getD p undef = q at h4 ⊢
      cases q <;> first
       | (simp [Instr.loadAt, Instr.sureAddr] at h4; done)
       | skip
      rename_i ad
      cases ad with
      | none => simp [Instr.loadAt, Instr.sureAddr] at h4
      | some ad => simpa [Instr.loadAt, Instr.sureAddr, asAddr] using h4
     refine ⟨y :: us, ?_, _, us, rfl, h5, h3⟩
     rw [List.mapM_cons, Sem.run_bind]
     rw [show resF a.tmps (.cell p t) = (do loadVar t (← asAddr (a.tmps.getD p undef))) from rfl, h6]
     simp only [Result.andThen_ok, Sem.run_bind]
     rw [h2]; rfl
    ·cases h
 obtain ⟨us, h1, h2⟩ := key _ _ h
 refine ⟨_, ?_, us, h2, rfl⟩
 show (fn.results.mapM (resF a.tmps) >>= fun vs => (pure (if h : vs.size = 1 then vs[0] else .tuple vs) : Sem Value)).run P E.w = _
 rw [Sem.run_bind, Array.mapM_eq_mapM_toList, Sem.run_map]
 rw [h1]
 rfl
omit hT
theorem SRepL.length {E : Env} : ∀ {l : List AV} {vs : List Value}, SRepL E l vs → vs.length = lenA l
 | [], _, r => by rw [show _ = [] from r]; rfl
 | a :: l, vs, r => by
  obtain ⟨v, s, rfl, _, r2⟩ := r
  simp only [List.length_cons, lenA, SRepL.length r2]
theorem entry_rel {E : Env} {args : List AV} {vals : List Value} {objs : Objs} {next : Nat} (hm : Mems E keep objs) (hN : E.N = next) (hr : SRepL E args vals) (n : Nat) :
  Rel keep (vals.toArray ++ Array.replicate (n - vals.toArray.size) undef).size ⟨appA args (repA (.tup []) (n - lenA args)), objs, next⟩ { tmps := vals.toArray ++ Array.replicate (n - vals.toArray.size) undef, defers := [] } E := by
 have h := slots_of (SRepL.app hr (repA_rep (E := E) (n - lenA args)))
 have e : (vals ++ List.replicate (n - lenA args) undef).toArray = vals.toArray ++ Array.replicate (n - vals.toArray.size) undef := by
  rw [← SRepL.length hr]
  apply Array.toList_inj.1
  simp
 rw [e] at h
 exact ⟨rfl, h, hm, hN, Marks.nil _ _⟩
theorem leaves_marks {P : Program} {fn : Func} {keep : Nat → Prop} {tmps : Array Value} {R : Ending → World → Prop} : ∀ (Ds : List Nat) (E : Env), Ds.Nodup → (∀ D ∈ Ds, ¬ keep D ∧ E.ro D ∧ E.w.heap[D]? = some (.deferred (some []))) →
  (∀ E', Shut E E' → (∀ b, b ∉ Ds → E'.w.heap[b]? = E.w.heap[b]?) → ∃ v, (results fn tmps).run P E'.w = .ok v E'.w ∧ R (.returned v) E'.w) →
  LeavesInM (fw none) 0 P fn tmps R (Ds.map fun D => { target := .collected D, args := #[] }) .returning E.w
 | [], E, _, _, h => h E (Shut.refl E) (fun _ _ => rfl)
 | D :: Ds, E, hn, hD, h => by
  obtain ⟨h1, h2, h3⟩ := hD D List.mem_cons_self
  obtain ⟨hn1, hn2⟩ := List.nodup_cons.1 hn
  have hs : Shut E { E with w := E.w.putObj D (.deferred none) } := Shut.putObj _ h3
  refine ⟨by simp, .inl ⟨D, _, rfl, run_takeDeferred h3, ?_⟩⟩
  refine leaves_marks (keep := keep) Ds { E with w := E.w.putObj D (.deferred none) } hn2 (fun D' hD' => ?_) fun E' hs' hother => ?_
  ·obtain ⟨g1, g2, g3⟩ := hD D' (List.mem_cons_of_mem _ hD')
   have hne : D' ≠ D := fun e => hn1 (e ▸ hD')
   exact ⟨g1, g2, (World.putObj_heap_other hne).trans g3⟩
  ·refine h E' (hs.trans hs') fun b hb => ?_
   exact (hother b fun h => hb (List.mem_cons_of_mem _ h)).trans (World.putObj_heap_other fun e => hb (e ▸ List.mem_cons_self))
include hT
theorem body_sound (hP : P.follows .mixedOrders = true) {H : Handler} (hH : HOK P H) {f : FuncId} {fn : Func} {body : Code} (hf : P.funcs[f]? = some fn) (hb : fn.body = some body) {an : Ann} {args : List AV} {vals : List Value} {objs : Objs} {next : Nat} {R : Type} {K : List AV → St → Option R} {r : R} {E : Env}
  (h : codeK T H body an ⟨appA args (repA (.tup []) (fn.ntmps - lenA args)), objs, next⟩ (fun e S' => match e with
   | .exit _ => none
   | _ => match resultsOf S' fn.results.toList T with
    | some vs => K vs S'
    | none => none) = some r) (hm : Mems E keep objs) (hN : E.N = next) (hr : SRepL E args vals) :
  Calls P f vals.toArray E.w fun e w' => ∃ us v S' E', e = .returned v ∧ E'.w = w' ∧ Later keep E E' ∧ Mems E' keep S'.objs ∧ E'.N = S'.next ∧ ResRep E' us v ∧ K us S' = some r := by
 have hm0 : Mems E (fun b => keep b ∨ E.ro b) objs := ⟨hm.rep, fun id oc b hl hb => ⟨(hm.sep id oc b hl hb).1, fun hk => hk.elim (hm.sep id oc b hl hb).2 (hm.sep id oc b hl hb).1⟩, hm.inj, hm.rob, fun b hb => hb.elim (hm.kb b) (hm.rob b), hm.gl⟩
 refine calls_fw.1 (callsIn_of_wp_marks (F := fw none) (n := 0) hf hb trivial (code_sound hT hH hP body (.inl rfl) an h (entry_rel hm0 hN hr fn.ntmps) fun e S' a' E' hR hL hk => ?_))
 have fin : (match resultsOf S' fn.results.toList T with
   | some vs => K vs S'
   | none => none) = some r → LeavesInM (fw none) 0 P fn a'.tmps (fun e w' => ∃ us v S' E', e = .returned v ∧ E'.w = w' ∧ Later keep E E' ∧ Mems E' keep S'.objs ∧ E'.N = S'.next ∧ ResRep E' us v ∧ K us S' = some r) a'.defers .returning E'.w := by
  intro hk
  split at hk
  ·rename_i vs hvs
   obtain ⟨Ds, hds, hnd, hD⟩ := hR.defers
   rw [hds]
   refine leaves_marks (keep := fun b => keep b ∨ E.ro b) Ds E' hnd hD fun E2 hs hoth => ?_
   have hR2 : Rel (fun b => keep b ∨ E.ro b) _ S' { a' with defers := [] } E2 :=
    ⟨hR.size, ⟨hR.slots.1, fun i v hv => SRep.shut hs (hR.slots.2 i v hv)⟩, hR.mems.shut hs, hs.N.trans hR.next, Marks.nil _ _⟩
   obtain ⟨v, h1, h2⟩ := results_sound hT hR2 fn hvs
   have hnk : ∀ b, keep b ∨ E.ro b → b ∉ Ds := fun b hb hm => (hD b hm).1 hb
   refine ⟨v, h1, vs, v, S', E2, rfl, rfl, ⟨fun b hb => by rw [hs.ro]; exact hL.ro b hb, fun b hb => ?_, fun id hi => by rw [hs.M]; exact hL.M id hi, by rw [hs.N]; exact hL.N, by rw [hs.size]; exact hL.size,
    fun b hb => (hoth b (hnk b (.inr hb))).trans (hL.heapRo b hb), fun b hb => (hoth b (hnk b (.inl hb))).trans (hL.heapKeep b (.inl hb)), hL.out.trans hs.out⟩, ?_, hR2.next, h2, hk⟩
   ·rw [hs.ro] at hb
    exact (hL.roN b hb).imp id fun h hk => h (.inl hk)
   ·exact ⟨hR2.mems.rep, fun id oc b hl hb => ⟨(hR2.mems.sep id oc b hl hb).1, fun hk => (hR2.mems.sep id oc b hl hb).2 (.inl hk)⟩, hR2.mems.inj, hR2.mems.rob, fun b hb => hR2.mems.kb b (.inl hb), hR2.mems.gl⟩
  ·cases hk
 cases e with
 | normal => exact fin hk
 | ret => exact fin hk
 | exit id => cases hk
set_option linter.unusedSectionVars false in
/-- what is laid of pure values -/
theorem layAll_pure : ∀ (l : List (Bool × Ty)) (x : denL l) (m : Mem), allPure l = true → (layAll l x m).2 = m
  | [], _, _, _ => rfl
  | [t], x, m, h => by
    simp only [allPure, Bool.and_eq_true] at h
    simp only [layAll, layOne, laid_pure _ _ _ h.1]
  | t :: t' :: l, x, m, h => by
    simp only [allPure, Bool.and_eq_true] at h
    have h2 := layAll_pure (t' :: l) x.2 m (by simp only [allPure, Bool.and_eq_true]; exact h.2)
    simp only [layAll, layOne, laid_pure _ _ _ h.1]
    exact h2
end
end Go.Rx
namespace Go.Rx
variable [Inhabited GW]
section
variable {P : Program} {T : Tab} (hT : TabOK P T) {keep : Nat → Prop}
theorem toTy_sub : ∀ (t : Ty) {cs rest : List AV} {objs objs' : Objs} {x : den t}, toTy t cs objs = some (x, rest, objs') → ∀ j oc, look j objs' = some oc → look j objs = some oc
 | .int k, cs, rest, objs, objs', x, h => by
  simp only [toTy] at h
  split at h
  ·split at h
   ·cases h; exact fun _ _ h => h
   ·cases h
  ·cases h
 | .bool, cs, rest, objs, objs', x, h => by
  simp only [toTy] at h
  split at h
  ·cases h; exact fun _ _ h => h
  ·cases h
 | .str, cs, rest, objs, objs', x, h => by
  simp only [toTy] at h
  split at h
  ·cases h; exact fun _ _ h => h
  ·cases h
 | .sl t, cs, rest, objs, objs', x, h => by
  simp only [toTy] at h
  split at h
  ·obtain ⟨_, _, h⟩ := oM_some h; cases h; exact fun _ _ h => h
  ·cases h; exact fun _ _ h => h
  ·obtain ⟨⟨_, _⟩, hl, h⟩ := oM_some h; cases h; exact takeOwn_sub hl
  ·cases h
 | .own t, cs, rest, objs, objs', x, h => by
  simp only [toTy] at h
  split at h
  ·cases h; exact fun _ _ h => h
  ·obtain ⟨⟨_, _⟩, hl, h⟩ := oM_some h; cases h; exact takeOwn_sub hl
  ·cases h
 | .unit, cs, rest, objs, objs', x, h => by
  simp only [toTy] at h; cases h; exact fun _ _ h => h
 | .pair a b, cs, rest, objs, objs', x, h => by
  simp only [toTy] at h
  split at h
  ·rename_i h1
   split at h
   ·rename_i h2
    cases h
    exact fun j oc hj => toTy_sub a h1 j oc (toTy_sub b h2 j oc hj)
   ·cases h
  ·cases h
 | .arr n t, cs, rest, objs, objs', x, h => by
  simp only [toTy] at h
  split at h
  ·split at h
   ·obtain ⟨_, _, h⟩ := oM_some h; cases h; exact fun _ _ h => h
   ·cases h
  ·have key : ∀ (n : Nat) {cs rest : List AV} {objs objs' : Objs} {xs : List (den t)}, manyTy (toTy t) n cs objs = some (xs, rest, objs') → ∀ j oc, look j objs' = some oc → look j objs = some oc := by
    intro n
    induction n with
    | zero => intro cs rest objs objs' xs h; simp only [manyTy] at h; cases h; exact fun _ _ h => h
    | succ n ih =>
     intro cs rest objs objs' xs h
     simp only [manyTy] at h
     split at h
     ·rename_i h1
      split at h
      ·rename_i h2
       cases h
       exact fun j oc hj => toTy_sub t h1 j oc (ih h2 j oc hj)
      ·cases h
     ·cases h
   exact key n h
theorem takeV_sub {t : Bool × Ty} {v : AV} {objs objs' : Objs} {x : den t.2} (h : takeV t v objs = some (x, objs')) : ∀ j oc, look j objs' = some oc → look j objs = some oc := by
 rcases bif_some h with ⟨_, h⟩ | ⟨_, h⟩
 ·unfold asTy at h
  split at h
  ·split at h
   ·rename_i h1
    cases h
    exact toTy_sub _ h1
   ·cases h
  ·cases h
 ·cases h
theorem packArgs_sub : ∀ (l : List (Bool × Ty)) {vs : List AV} {objs objs' : Objs} {x : denL l}, packArgs l vs objs = some (x, objs') → ∀ j oc, look j objs' = some oc → look j objs = some oc
 | [], vs, objs, objs', x, h => by
  cases vs with
  | nil => cases h; exact fun _ _ h => h
  | cons => cases h
 | [t], vs, objs, objs', x, h => by
  match vs, h with
  | [v], h => exact takeV_sub h
 | t :: t' :: l, vs, objs, objs', x, h => by
  match vs, h with
  | v :: vs, h =>
   simp only [packArgs] at h
   split at h
   ·rename_i h1
    split at h
    ·rename_i h2
     cases h
     exact fun j oc hj => takeV_sub h1 j oc (packArgs_sub (t' :: l) h2 j oc hj)
    ·cases h
   ·cases h
theorem mems_sub {E : Env} {objs objs' : Objs} (h : Mems E keep objs) (hs : ∀ j oc, look j objs' = some oc → look j objs = some oc) : Mems E keep objs' :=
 ⟨fun id oc hl => h.rep id oc (hs _ _ hl), fun id oc b hl => h.sep id oc b (hs _ _ hl), fun id id' oc oc' b hl hl' => h.inj id id' oc oc' b (hs _ _ hl) (hs _ _ hl'), h.rob, h.kb, h.gl⟩
include hT
theorem evalF_contract (hP : P.follows .mixedOrders = true) {Es : List (Nat × Callee)} {depth : Nat} (hH : HOK P (handler T Es depth)) {f : FuncId} {F : Func} {body : Code} (hf : P.funcs[f]? = some F) (hb : F.body = some body) (hname : (F.name == "runtime.NumGoroutine") = false)
  {an : Ann} {ins outs : List (Bool × Ty)} {fn : denL ins → Option (denL outs)} (h : ∀ x, evalF T Es depth F body an ins outs x = fn x) : Contract P f ins outs fn := by
 refine ⟨⟨F, hf, hname, by rw [hb]; rfl⟩, fun x y hxy keep E vs vals objs objs' hm hr hp => ?_⟩
 rw [← h] at hxy
 have T0 : Two 0 keep E { E with N := 0 } objs [] :=
  ⟨rfl, rfl, fun _ _ => rfl, Nat.le_refl _, hm, ⟨fun id oc h => (nomatch h), fun id oc b h => (nomatch h), fun id id' oc oc' b h => (nomatch h), hm.rob, hm.kb, hm.gl.mono fun _ hg => ⟨hm.gl.ro hg, rfl⟩⟩, fun b _ hx => by obtain ⟨id, oc, h, _⟩ := hx; cases h⟩
 obtain ⟨A, B, g, L, T1, N1, hs⟩ := relayAll ins T0 hr hp
 have hlive : ∀ b, Live E objs' b → Live A objs' b := fun b ⟨id, oc, h1, h2⟩ => ⟨id, oc, h1, by rw [g.M]; exact h2⟩
 have hwB : B.w = E.w := T1.w.trans g.w
 have hmB : Mems B (fun b => keep b ∨ Live E objs' b) (layAll ins x ⟨[], 0⟩).2.objs :=
  ⟨T1.mb.rep, fun id oc b h1 h2 => ⟨(T1.mb.sep id oc b h1 h2).1, fun hc => hc.elim (T1.mb.sep id oc b h1 h2).2 fun hc => T1.ap b (hlive b hc) ⟨id, oc, h1, h2⟩⟩, T1.mb.inj, T1.mb.rob,
   fun b hb => hb.elim (T1.mb.kb b) fun hc => by
    obtain ⟨id, oc, h1, h2⟩ := hlive b hc
    have := live_lt (T1.ma.rep _ _ h1).2 h2
    rw [T1.w]; exact this, T1.mb.gl⟩
 unfold evalF at hxy
 rw [← hwB]
 refine (body_sound (K := fun vs S' => match packArgs outs vs S'.objs with
   | some (y, _) => some y
   | none => none) hT hP hH hf hb hxy hmB N1 hs.toS).mono ?_
 rintro e w' ⟨us, v, S', E', rfl, rfl, hL, hM, hN, hres, hk⟩
 split at hk
 ·rename_i y' ob' hpk
  cases hk
  refine ⟨us, v, S'.objs, ob', E', rfl, rfl, hres, hM, hpk, ⟨by rw [← hwB]; exact hL.out, fun b hb => hL.ro b ?_, fun b hb => ?_, ?_, fun b hb => ?_, fun b hb => ?_⟩⟩
  ·rw [T1.ro]; exact g.later.ro b hb
  ·rcases hL.roN b hb with hb | hb
   ·rw [T1.ro] at hb
    rcases g.later.roN b hb with h1 | h1
    ·exact .inl h1
    ·exact .inr fun hc => hc.elim h1 fun hc => by
      obtain ⟨id, oc, h2, h3⟩ := hlive b hc
      exact (T1.ma.sep _ _ _ h2 h3).1 hb
   ·exact .inr hb
  ·rw [← hwB]; exact hL.size
  ·rw [← hwB]; exact hL.heapRo b (by rw [T1.ro]; exact g.later.ro b hb)
  ·rw [← hwB]; exact hL.heapKeep b hb
 ·cases hk
omit hT
theorem TRep.flat {A B : Env} : ∀ {t : Ty} {x : den t} {vs : List Value}, t.flat = true → TRep A t x vs → TRep B t x vs
 | .int _, _, _, _, r => r
 | .bool, _, _, _, r => r
 | .str, _, _, _, r => r
 | .sl _, _, _, h, _ => by cases h
 | .own _, _, _, h, _ => by cases h
 | .unit, _, _, _, r => r
 | .pair a b, x, vs, h, r => by
  simp only [Ty.flat, Bool.and_eq_true] at h
  obtain ⟨u, v, e, r1, r2⟩ := r
  exact ⟨u, v, e, TRep.flat h.1 r1, TRep.flat h.2 r2⟩
 | .arr n t, l, vs, h, r => by
  obtain ⟨e1, e2, r⟩ := r
  refine ⟨e1, e2, fun i hi => ?_⟩
  obtain ⟨cs, r1, r2⟩ := r i hi
  exact ⟨cs, TRep.flat (by exact h) r1, r2⟩
theorem flat_pure : ∀ {t : Ty}, t.flat = true → t.pure = true
 | .int _, _ => rfl
 | .bool, _ => rfl
 | .str, _ => rfl
 | .sl _, h => by cases h
 | .own _, h => by cases h
 | .unit, _ => rfl
 | .pair a b, h => by
  simp only [Ty.flat, Bool.and_eq_true] at h
  simp only [Ty.pure, flat_pure h.1, flat_pure h.2, Bool.and_self]
 | .arr n t, h => flat_pure (t := t) h
theorem TRep.mono {A B : Env} (hw : B.w = A.w) (hr : ∀ b, A.ro b → B.ro b) : ∀ {t : Ty} {x : den t} {vs : List Value}, TRep A t x vs → TRep B t x vs
 | .int _, _, _, r => r
 | .bool, _, _, r => r
 | .str, _, _, r => r
 | .sl t, l, vs, r => by
  obtain ⟨a, cap, e, hc, r⟩ := r
  refine ⟨a, cap, e, hc, r.imp id ?_⟩
  rintro ⟨b, o, e, hb, r⟩
  refine ⟨b, o, e, hr b hb, fun i hi => ?_⟩
  obtain ⟨cs, r1, r2⟩ := r i hi
  exact ⟨cs, TRep.mono hw hr r1, fun j v hj => by rw [hw]; exact r2 j v hj⟩
 | .own _, _, _, r => r
 | .unit, _, _, r => r
 | .pair a b, x, vs, r => by
  obtain ⟨u, v, e, r1, r2⟩ := r
  exact ⟨u, v, e, TRep.mono hw hr r1, TRep.mono hw hr r2⟩
 | .arr n t, l, vs, r => by
  obtain ⟨e1, e2, r⟩ := r
  refine ⟨e1, e2, fun i hi => ?_⟩
  obtain ⟨cs, r1, r2⟩ := r i hi
  exact ⟨cs, TRep.mono hw hr r1, r2⟩
theorem takeV_pure {t : Bool × Ty} {v : AV} {xv : Value} {x : den t.2} {E : Env} {objs objs1 : Objs} (hp : t.2.pure = true) (hm : Mems E keep objs) (hrep : SRep E v xv) (hx : takeV t v objs = some (x, objs1)) :
  ∃ E', Given keep E E' ∧ Mems E' keep objs1 ∧ TRep E' t.2 x xv.cells.toList ∧ (∀ b, E'.ro b → E.ro b ∨ Live E objs b) ∧ ∀ {B : Env} {m : Mem}, TRep B t.2 x xv.cells.toList → VRep B (layOne t x m).1 xv := by
 obtain ⟨agg, t⟩ := t
 rcases bif_some hx with ⟨hc, hx⟩ | ⟨_, hx⟩
 ·simp only [Bool.and_eq_true] at hc
  obtain ⟨⟨_, hfit⟩, hag⟩ := hc
  unfold asTy at hx
  split at hx
  ·rename_i cs hcs
   split at hx
   ·rename_i x' oa2 hto
    cases hx
    obtain ⟨E', u, w, g, m, e, t1, c, l1, _⟩ := toTy_sound t hp (cellsOf_rep hrep hcs) hm hto
    rw [show w = [] from c, List.append_nil] at e
    refine ⟨E', g, m, e ▸ t1, l1, fun {B m} tB => ?_⟩
    have c1 := enc_rep tB
    have hl : (laid t x m).1 = enc t x := by rw [laid_pure t x m hp]
    show VRep B (if agg then .agg (laid t x m).1 else headA (laid t x m).1) xv
    cases agg with
    | true =>
     cases v <;> first
      | (simp [fitsA] at hfit; done)
      | skip
     obtain ⟨vs, rfl, _⟩ := hrep
     exact ⟨vs, rfl, by rw [hl]; simpa [Value.cells] using c1⟩
    | false =>
     have hsc : t.scalar = true := by simpa using hag
     obtain ⟨c, ec, hcell⟩ := laid_scalar (x := x) (m := m) hsc
     have hone : xv.cells = #[xv] := by
      cases v <;> first
       | (simp [fitsA] at hfit; done)
       | (simp [cellsOf] at hcs; done)
       | exact one_cells (CRep.one (E := E) (show CRep E _ [xv] from hrep) xv (by simp))
     rw [← hl, ec, hone] at c1
     obtain ⟨u, r, e, c3, c4⟩ := c1
     rw [show r = [] from c4, List.append_nil] at e
     have e : u = [xv] := e.symm
     rw [e] at c3
     rw [ec]
     show VRep B c xv
     cases c <;> first
      | (simp [isCell] at hcell; done)
      | exact c3
   ·cases hx
  ·cases hx
 ·cases hx
theorem toTy_enc : ∀ (t : Ty) (x : den t) (rest : List AV) (objs : Objs), t.pure = true → toTy t (appA (enc t x) rest) objs = some (x, rest, objs)
 | .int k, x, rest, objs, _ => by simp [enc, appA, toTy]
 | .bool, x, rest, objs, _ => by simp [enc, appA, toTy]
 | .str, x, rest, objs, _ => by simp [enc, appA, toTy]
 | .sl t, x, rest, objs, _ => by simp [enc, appA, toTy, castL, oM]
 | .own t, _, _, _, h => by cases h
 | .unit, x, rest, objs, _ => rfl
 | .pair a b, x, rest, objs, h => by
  simp only [Ty.pure, Bool.and_eq_true] at h
  have happ : ∀ (l m k : List AV), appA (appA l m) k = appA l (appA m k) := by
   intro l m k
   induction l with
   | nil => rfl
   | cons a l ih => simp only [appA, ih]
  simp only [enc, toTy, happ, toTy_enc a x.1 _ objs h.1, toTy_enc b x.2 _ objs h.2]
 | .arr n t, x, rest, objs, _ => by simp [enc, appA, toTy, castL, oM]
theorem appA_nil : ∀ (l : List AV), appA l [] = l
 | [] => rfl
 | a :: l => by simp only [appA, appA_nil l]
theorem takeV_lay {t : Bool × Ty} {v : AV} {x : den t.2} {objs objs1 ob : Objs} {m : Mem} (hp : t.2.pure = true) (hx : takeV t v objs = some (x, objs1)) : takeV t (layOne t x m).1 ob = some (x, ob) := by
 obtain ⟨agg, t⟩ := t
 rcases bif_some hx with ⟨hc, _⟩ | ⟨_, hx⟩
 ·simp only [Bool.and_eq_true] at hc
  obtain ⟨⟨hokp, _⟩, hag⟩ := hc
  have hl : (laid t x m).1 = enc t x := by rw [laid_pure t x m hp]
  have henc := toTy_enc t x [] ob hp
  rw [appA_nil] at henc
  show (bif t.okp && fitsA agg (if agg then .agg (laid t x m).1 else headA (laid t x m).1) && (agg || t.scalar) then asTy t (if agg then .agg (laid t x m).1 else headA (laid t x m).1) ob else none) = some (x, ob)
  cases agg with
  | true => simp [hokp, fitsA, asTy, cellsOf, hl, henc]
  | false =>
   have hsc : t.scalar = true := by simpa using hag
   obtain ⟨c, ec, hcell⟩ := laid_scalar (x := x) (m := m) hsc
   rw [← hl, ec] at henc
   have hco : cellsOf c = some [c] := by cases c <;> first | (simp [isCell] at hcell; done) | rfl
   have hfi : fitsA false c = true := by cases c <;> first | (simp [isCell] at hcell; done) | rfl
   simp [hokp, hsc, ec, headA, hfi, asTy, hco, henc]
 ·cases hx
theorem lendV_takeV {t : Bool × Ty} {v : AV} {objs : Objs} {x : den t.2} (h : lendV t v objs = some x) :
  (∃ ty id off n ty' lo len, t = (false, .sl ty) ∧ v = .bsl id off n ty' lo len) ∨ ∃ o, takeV t v objs = some (x, o) := by
 unfold lendV at h
 split at h
 ·exact .inl ⟨_, _, _, _, _, _, _, rfl, rfl⟩
 ·split at h
  ·cases h; exact .inr ⟨_, by assumption⟩
  ·cases h
theorem lendV_sound {t : Bool × Ty} {v : AV} {xv : Value} {x : den t.2} {E : Env} {objs : Objs} {m : Mem} (hp : t.2.pure = true) (hm : Mems E keep objs) (hrep : SRep E v xv) (h : lendV t v objs = some x) :
  SRep { E with ro := fun b => E.ro b ∨ Live E objs b } (layOne t x m).1 xv ∧ takeV t (layOne t x m).1 [] = some (x, []) := by
 rcases lendV_takeV h with ⟨ty, id, off, n, ty', lo, len, rfl, rfl⟩ | ⟨o1, h1⟩
 ·simp only [lendV] at h
  have hb2 := bif_some h
  have hw : width ty' = width ty := by
   rcases hb2 with ⟨hw, _⟩ | ⟨_, h⟩
   ·exact Nat.eq_of_beq_eq_true hw
   ·cases h
  rw [hw, Nat.beq_refl, cond_true] at h
  split at h
  ·rename_i cs hl
   split at h
   ·rename_i l ha
    have hx := Option.some.inj h
    subst hx
    obtain ⟨hi, hlo, b, o, hb, hv, ho⟩ := hrep
    obtain ⟨h1, h2⟩ := hm.rep _ _ hl
    obtain ⟨b', vs, e, hb', hh, hc⟩ := h2
    rw [hb] at hb'; cases hb'
    obtain ⟨ha1, ha2⟩ := arrAt_rep hc ha
    have hlen : ((l.drop lo).take len).length = len := by
     have := ha2.1
     rw [List.length_take, List.length_drop]; omega
    have key : TRep { E with ro := fun b => E.ro b ∨ Live E objs b } (.sl ty) ((l.drop lo).take len) [xv] := by
     refine ⟨some ⟨b, o, none⟩, n - lo, ?_, ⟨by rw [hlen]; omega, nofun⟩, ?_⟩
     ·rw [hlen]; exact hv
     ·by_cases h0 : len = 0
      ·left; rw [hlen]; exact h0
      ·right
       refine ⟨b, o, rfl, .inr ⟨id, _, hl, hb⟩, fun i hi' => ?_⟩
       rw [hlen] at hi'
       rcases ho with ho | ho
       ·omega
       have hAt : At E.w b off ((vs.toList.drop off).take (n * width ty)) := fun j v hj => by
        have hj' : j < n * width ty := by
         have := (List.getElem?_eq_some_iff.1 hj).1
         rw [List.length_take] at this; omega
        rw [List.getElem?_take_of_lt hj', List.getElem?_drop] at hj
        simp only [World.cell?, hh]
        simpa using hj
       obtain ⟨cs', r1, r2⟩ := elem_at (k := lo + i) ha2 hAt (by omega)
       refine ⟨cs', ?_, fun j v hj => ?_⟩
       ·have e1 : ((l.drop lo).take len)[i] = l.getD (lo + i) (dflt ty) := by
         have hll := ha2.1
         rw [List.getElem_take, List.getElem_drop, List.getD_eq_getElem?_getD, List.getElem?_eq_getElem (by omega)]; rfl
        rw [e1]
        exact TRep.mono (A := E) (B := { E with ro := fun b => E.ro b ∨ Live E objs b }) rfl (fun b h => Or.inl h) r1
       ·have := r2 j v hj
        rw [ho]
        have e2 : off + lo * width ty' + i * width ty + j = off + (lo + i) * width ty + j := by rw [hw, Nat.add_mul]; omega
        rw [e2]; exact this
    have ho : (Ty.sl ty).okp = true := hp
    exact ⟨key, by simp [layOne, laid, takeV, headA, toTy, cellsOf, asTy, castL, Ty.scalar, oM, ho, fitsA]⟩
   ·cases h
  ·cases h
 ·obtain ⟨E', g, _, t1, l1, hB⟩ := takeV_pure hp hm hrep h1
  exact ⟨(hB (TRep.mono (by rw [g.w]) l1 t1)).toS, takeV_lay hp h1⟩
theorem lend_sound {E : Env} {objs : Objs} (hm : Mems E keep objs) : ∀ (l : List (Bool × Ty)) {vs : List AV} {vals : List Value} {x : denL l} {m : Mem}, allPure l = true → SRepL E vs vals → packLend objs l vs = some x →
  SRepL { E with ro := fun b => E.ro b ∨ Live E objs b } (layAll l x m).1 vals ∧ packArgs l (layAll l x m).1 [] = some (x, [])
 | [], vs, vals, x, m, _, hr, h => by
  cases vs with
  | nil => exact ⟨hr, rfl⟩
  | cons => cases h
 | [t], vs, vals, x, m, hp, hr, h => by
  simp only [allPure, Bool.and_eq_true] at hp
  match vs, hr, h with
  | [v], hr, h =>
   obtain ⟨xv, r, rfl, r1, r2⟩ := hr
   simp only [packLend] at h
   obtain ⟨h1, h2⟩ := lendV_sound (m := m) hp.1 hm r1 h
   exact ⟨⟨xv, r, rfl, h1, r2⟩, h2⟩
 | t :: t' :: l, vs, vals, x, m, hp, hr, h => by
  simp only [allPure, Bool.and_eq_true] at hp
  match vs, hr, h with
  | v :: vs, hr, h =>
   obtain ⟨xv, r, rfl, r1, r2⟩ := hr
   simp only [packLend] at h
   split at h
   ·rename_i y h1
    split at h
    ·rename_i ys h2
     cases h
     obtain ⟨a1, a2⟩ := lendV_sound (m := m) hp.1 hm r1 h1
     obtain ⟨h3, h4⟩ := lend_sound hm (t' :: l) (m := (layOne t y m).2) (by simp only [allPure, Bool.and_eq_true]; exact hp.2) r2 h2
     refine ⟨⟨xv, r, rfl, a1, h3⟩, ?_⟩
     simp only [layAll, packArgs, a2, h4]
    ·cases h
   ·cases h
theorem flat_results : ∀ (l : List (Bool × Ty)) {E B : Env} {objs objs' : Objs} {us : List AV} {vals : List Value} {x : denL l} {m : Mem}, allFlat l = true → Mems E keep objs → SRepL E us vals → packArgs l us objs = some (x, objs') → VRepL B (layAll l x m).1 vals
 | [], E, B, objs, objs', us, vals, x, m, _, hm, hr, h => by
  cases us with
  | nil => exact hr
  | cons => cases h
 | [t], E, B, objs, objs', us, vals, x, m, hf, hm, hr, h => by
  simp only [allFlat, Bool.and_eq_true] at hf
  match us, hr, h with
  | [v], hr, h =>
   obtain ⟨xv, r, rfl, r1, r2⟩ := hr
   obtain ⟨E', g, _, t1, l1, hB⟩ := takeV_pure (flat_pure hf.1) hm r1 h
   exact ⟨xv, r, rfl, hB (TRep.flat hf.1 t1), r2⟩
 | t :: t' :: l, E, B, objs, objs', us, vals, x, m, hf, hm, hr, h => by
  simp only [allFlat, Bool.and_eq_true] at hf
  match us, hr, h with
  | v :: us, hr, h =>
   obtain ⟨xv, r, rfl, r1, r2⟩ := hr
   simp only [packArgs] at h
   split at h
   ·rename_i y o1 h1
    split at h
    ·rename_i ys o2 h2
     cases h
     obtain ⟨E', g, m1, t1, l1, hB⟩ := takeV_pure (flat_pure hf.1) hm r1 h1
     exact ⟨xv, r, rfl, hB (TRep.flat hf.1 t1), flat_results (t' :: l) (by simp only [allFlat, Bool.and_eq_true]; exact hf.2) m1 (SRepL.later g.later r2) h2⟩
    ·cases h
   ·cases h
theorem flat_allPure : ∀ (l : List (Bool × Ty)), allFlat l = true → allPure l = true
 | [], _ => rfl
 | t :: l, h => by
  simp only [allFlat, Bool.and_eq_true] at h
  simp only [allPure, flat_pure h.1, flat_allPure l h.2, Bool.and_self]
theorem look_inO {ids : List Nat} {id : Nat} {oc : OC} : ∀ {l : Objs}, look id (inO ids l) = some oc → look id l = some oc ∧ memN id ids = true
 | (j, o) :: l, h => by
  simp only [inO] at h
  cases hb : memN j ids with
  | true =>
   rw [hb] at h
   simp only [cond_true, look] at h ⊢
   cases hj : Nat.beq j id with
   | true =>
    rw [hj] at h
    have := Nat.eq_of_beq_eq_true hj
    subst this
    exact ⟨h, hb⟩
   | false => rw [hj] at h; exact look_inO h
  | false =>
   rw [hb] at h
   simp only [cond_false] at h
   obtain ⟨h1, h2⟩ := look_inO h
   refine ⟨?_, h2⟩
   simp only [look]
   cases hj : Nat.beq j id with
   | true =>
    have := Nat.eq_of_beq_eq_true hj
    subst this
    rw [hb] at h2; cases h2
   | false => exact h1
theorem look_outO {ids : List Nat} {id : Nat} {oc : OC} : ∀ {l : Objs}, look id (outO ids l) = some oc → look id l = some oc ∧ memN id ids = false
 | (j, o) :: l, h => by
  simp only [outO] at h
  cases hb : memN j ids with
  | false =>
   rw [hb] at h
   simp only [cond_false, look] at h ⊢
   cases hj : Nat.beq j id with
   | true =>
    rw [hj] at h
    have := Nat.eq_of_beq_eq_true hj
    subst this
    exact ⟨h, hb⟩
   | false => rw [hj] at h; exact look_outO h
  | true =>
   rw [hb] at h
   simp only [cond_true] at h
   obtain ⟨h1, h2⟩ := look_outO h
   refine ⟨?_, h2⟩
   simp only [look]
   cases hj : Nat.beq j id with
   | true =>
    have := Nat.eq_of_beq_eq_true hj
    subst this
    rw [hb] at h2; cases h2
   | false => exact h1
theorem look_newO {ids : List Nat} {n id : Nat} {oc : OC} : ∀ {l : Objs}, look id (newO ids n l) = some oc → look id l = some oc ∧ (memN id ids || Nat.ble n id) = true
 | (j, o) :: l, h => by
  simp only [newO] at h
  cases hb : (memN j ids || Nat.ble n j) with
  | true =>
   rw [hb] at h
   simp only [cond_true, look] at h ⊢
   cases hj : Nat.beq j id with
   | true =>
    rw [hj] at h
    have := Nat.eq_of_beq_eq_true hj
    subst this
    exact ⟨h, hb⟩
   | false => rw [hj] at h; exact look_newO h
  | false =>
   rw [hb] at h
   simp only [cond_false] at h
   obtain ⟨h1, h2⟩ := look_newO h
   refine ⟨?_, h2⟩
   simp only [look]
   cases hj : Nat.beq j id with
   | true =>
    have := Nat.eq_of_beq_eq_true hj
    subst this
    rw [hb] at h2; cases h2
   | false => exact h1
theorem look_outO_out {ids : List Nat} {id : Nat} (hi : memN id ids = false) : ∀ {l : Objs}, look id (outO ids l) = look id l
 | [] => rfl
 | (j, o) :: l => by
  simp only [outO]
  cases hb : memN j ids with
  | false =>
   simp only [cond_false, look]
   rw [look_outO_out hi]
  | true =>
   simp only [cond_true, look]
   rw [look_outO_out hi]
   cases hj : Nat.beq j id with
   | true =>
    have := Nat.eq_of_beq_eq_true hj
    subst this
    rw [hb] at hi; cases hi
   | false => rfl
theorem look_mergeO_eq {id : Nat} : ∀ {l m : Objs}, look id m = none → look id (mergeO l m) = look id l
 | [], m, h => h
 | (j, o) :: l, m, h => by
  simp only [mergeO]
  rw [look_setO, look_mergeO_eq h]
  simp only [look]
  cases hj : Nat.beq j id with
  | true =>
   have := Nat.eq_of_beq_eq_true hj
   subst this
   rw [if_pos rfl]; rfl
  | false =>
   have hne : id ≠ j := fun e => by rw [e, Nat.beq_refl] at hj; cases hj
   rw [if_neg hne]; rfl
theorem look_mergeO {id : Nat} {oc : OC} : ∀ {l m : Objs}, look id (mergeO l m) = some oc → look id l = some oc ∨ look id m = some oc
 | [], m, h => .inr h
 | (j, o) :: l, m, h => by
  simp only [mergeO] at h
  rw [look_setO] at h
  simp only [look]
  cases hj : Nat.beq j id with
  | true =>
   have := Nat.eq_of_beq_eq_true hj
   subst this
   rw [if_pos rfl] at h
   exact .inl h
  | false =>
   have hne : id ≠ j := fun e => by rw [e, Nat.beq_refl] at hj; cases hj
   rw [if_neg hne] at h
   exact look_mergeO h
def CalleeOK (P : Program) (f : FuncId) : Callee → Prop
 | .sem ins outs fn => Contract P f ins outs fn
 | .inl fn body _ => P.funcs[f]? = some fn ∧ fn.body = some body ∧ (fn.name == "runtime.NumGoroutine") = false
 | .back n => 0 < n ∧ n ≤ 1000000 ∧ ∃ D T, TabOK P T ∧ BackOK P T f n D
 | .ext fn => ∀ (E : Env) (args : List AV) (vals : List Value) (v : AV), fn args = some v → SRepL E args vals → ∃ x, (callFunc f vals.toArray).run P E.w = .ok (.value x) E.w ∧ SRep E v x
include hT
theorem handler_sound (hP : P.follows .mixedOrders = true) {Es : List (Nat × Callee)} (hE : ∀ f c, eget f Es = some c → CalleeOK P f c) : ∀ n, HOK P (handler T Es n)
 | 0 => ⟨fun f args S K => rfl, fun f args S v S' h => (nomatch h), fun f args S v S' l h => (nomatch h), fun f n h => (nomatch h), fun f args S K r h => (nomatch h), fun f args S K r h => (nomatch h), fun f args S K r h => (nomatch h)⟩
 | n + 1 => by
  have ih := handler_sound hP hE n
  refine ⟨handler_nat T Es (n + 1), fun f args S v S' h hr => ?_, fun f args S v S' l h hr j hj hlt => ?_, fun f m h => ?_, fun f args S K r h => ?_, fun f args S K r h hx E vals hr => ?_, fun f args S K r h hx keep E vals hm hN hr => ?_⟩
  ·simp only [handler] at h hr
   split at h
   ·rename_i ins outs fn he
    rw [he] at hr
    simp only [h, cond_true] at hr
    split at hr
    ·rw [Option.bind_eq_some_iff] at hr
     obtain ⟨y, _, hr⟩ := hr
     simp only [Bool.and_eq_true] at h
     have hmem : (layOut outs y ⟨S.objs, S.next⟩).2 = ⟨S.objs, S.next⟩ := layAll_pure hT outs y _ (flat_allPure outs h.1)
     cases hr
     exact ⟨by rw [hmem], by rw [hmem]⟩
    ·cases hr
   ·rename_i fn he
    rw [he] at hr
    dsimp only at hr
    split at hr
    ·cases hr; exact ⟨rfl, rfl⟩
    ·cases hr
   ·cases h
  ·simp only [handler] at h hr
   split at h
   ·rename_i ins outs fn he
    cases h
    rw [he] at hr
    dsimp only at hr
    rcases bif_some hr with ⟨_, hr⟩ | ⟨_, hr⟩
    ·split at hr
     ·rw [Option.bind_eq_some_iff] at hr
      obtain ⟨y, _, hr⟩ := hr
      cases hr
      exact (layAll_touch outs y ⟨S.objs, S.next⟩).2 hlt
     ·cases hr
    ·split at hr
     ·rename_i x objs hx
      rw [Option.bind_eq_some_iff] at hr
      obtain ⟨y, _, hr⟩ := hr
      cases hr
      exact ((layAll_touch outs y ⟨objs, S.next⟩).2 hlt).trans (packArgs_touch ins hx hj)
     ·cases hr
   ·rename_i fn body an he
    cases h
    rw [he] at hr
    dsimp only at hr
    generalize reachN S.objs 6 (idsV.idsVs args) = ids at hr hj
    rw [codeK_nat (handler_nat T Es n), Option.bind_eq_some_iff] at hr
    obtain ⟨⟨e, S1⟩, _, hr⟩ := hr
    have hj' : memN j ids = false := by
     cases hb : memN j ids with
     | false => rfl
     | true => exact absurd (memN_iff.1 hb) hj
    have key : ∀ {us : List AV}, some (oneOf us, { S with objs := mergeO (outO ids S.objs) (newO ids S.next S1.objs), next := S1.next }) = some (v, S') → look j S'.objs = look j S.objs := fun e => by
     cases e
     show look j (mergeO (outO ids S.objs) (newO ids S.next S1.objs)) = _
     rw [look_mergeO_eq, look_outO_out hj']
     cases hn : look j (newO ids S.next S1.objs) with
     | none => rfl
     | some oc =>
      have h2 := (look_newO hn).2
      rw [hj', Bool.false_or] at h2
      exact absurd (Nat.le_of_ble_eq_true h2) (by omega)
    dsimp only at hr
    split at hr
    ·cases hr
    ·split at hr
     ·exact key hr
     ·cases hr
   ·rename_i fn he
    rw [he] at hr
    dsimp only at hr
    split at hr
    ·cases hr; rfl
    ·cases hr
   ·cases h
  ·simp only [handler] at h
   split at h
   ·rename_i n' he
    cases h
    exact hE f _ he
   ·cases h
  ·unfold handler at h
   dsimp only at h
   split at h
   ·cases h
   ·cases h
   ·rename_i fn he
    exact .inr (by simp only [handler, he])
   ·rename_i ins outs fn he
    exact .inl (hE f _ he).has
   ·rename_i fn body an he
    obtain ⟨h1, h2, h3⟩ := hE f _ he
    exact .inl ⟨fn, h1, h3, by rw [h2]; rfl⟩
  ·simp only [handler] at hx h
   split at hx
   ·rename_i fn he
    rw [he] at h
    dsimp only at h
    split at h
    ·rename_i v hv
     obtain ⟨x, h1, h2⟩ := hE f _ he E args vals v hv hr
     exact ⟨v, x, h1, h2, h⟩
    ·cases h
   ·cases hx
  ·unfold handler at h
   dsimp only at h
   split at h
   ·cases h
   ·cases h
   ·rename_i fn he
    simp only [handler, he] at hx
    cases hx
   ·rename_i ins outs fn he
    have hC : Contract P f ins outs fn := hE f _ he
    cases hb : (allFlat outs && allPure ins) with
    | true =>
     rw [hb] at h
     simp only [Bool.and_eq_true] at hb
     simp only [cond_true] at h
     split at h
     ·rename_i x hx
      rw [Option.bind_eq_some_iff] at h
      obtain ⟨y, hy, h⟩ := h
      obtain ⟨h1, h2⟩ := lend_sound hm ins (m := ⟨[], 0⟩) hb.2 hr hx
      have hm1 : Mems { E with ro := fun b => E.ro b ∨ Live E S.objs b } keep [] :=
       ⟨fun id oc h => (nomatch h), fun id oc b h => (nomatch h), fun id id' oc oc' b h => (nomatch h), fun b hb => hb.elim (hm.rob b) fun ⟨id, oc, h1, h2⟩ => live_lt (E := E) (hm.rep _ _ h1).2 h2, hm.kb, hm.gl.mono fun _ hg => ⟨.inl (hm.gl.ro hg), rfl⟩⟩
      refine (hC.ok x y hy keep _ _ vals [] [] hm1 h1 h2).mono ?_
      rintro e w' ⟨us, v, ob, ob', E', rfl, rfl, hres, hM, hpk, hF⟩
      have hL : Later keep E { E with w := E'.w } :=
       ⟨fun _ h => h, fun _ h => .inl h, fun _ _ => rfl, Nat.le_refl _, hF.size, fun b hb => hF.heapRo b (.inl hb), fun b hb => hF.heapKeep b (.inl hb), hF.out⟩
      have hM2 : Mems { E with w := E'.w } keep S.objs :=
       ⟨fun id oc hl => ⟨(hm.rep id oc hl).1, ORep.later hL (fun b hb => hF.heapRo b (.inr ⟨id, oc, hl, hb⟩)) (hm.rep id oc hl).2⟩, hm.sep, hm.inj, fun b hb => Nat.lt_of_lt_of_le (hm.rob b hb) hF.size, fun b hb => Nat.lt_of_lt_of_le (hm.kb b hb) hF.size, hm.gl.later hL⟩
      obtain ⟨vs', hvr, ev⟩ := hres
      have hflat := flat_results outs (B := { E with w := E'.w }) (m := ⟨S.objs, S.next⟩) hb.1 hM hvr.toS hpk
      have hmem : (layOut outs y ⟨S.objs, S.next⟩).2 = ⟨S.objs, S.next⟩ := layAll_pure hT outs y _ (flat_allPure outs hb.1)
      refine ⟨_, v, { S with objs := (layOut outs y ⟨S.objs, S.next⟩).2.objs, next := (layOut outs y ⟨S.objs, S.next⟩).2.next }, { E with w := E'.w }, rfl, rfl, hL, ?_, ?_, rfl, ResRep.one ⟨vs', hflat, ev⟩, h⟩
      ·show Mems _ keep (layOut outs y ⟨S.objs, S.next⟩).2.objs
       rw [hmem]; exact hM2
      ·show E.N = (layOut outs y ⟨S.objs, S.next⟩).2.next
       rw [hmem]; exact hN
     ·cases h
    | false =>
     rw [hb] at h
     simp only [cond_false] at h
     split at h
     ·rename_i x objs' hx
      rw [Option.bind_eq_some_iff] at h
      obtain ⟨y, hy, h⟩ := h
      refine (hC.ok x y hy keep E args vals S.objs objs' hm hr hx).mono ?_
      rintro e w' ⟨us, v, ob, ob', E', rfl, rfl, hres, hM, hpk, hF⟩
      have hm' := mems_sub hm (packArgs_sub ins hx)
      have hL : Later keep E { E' with M := E.M, N := E.N } :=
       ⟨hF.ro, fun b hb => (hF.roN b hb).imp id fun h hc => h (.inl hc), fun _ _ => rfl, Nat.le_refl _, hF.size, hF.heapRo, fun b hb => hF.heapKeep b (.inl hb), hF.out⟩
      have hM2 : Mems { E' with M := E.M, N := E.N } keep objs' :=
       ⟨fun id oc hl => ⟨(hm'.rep id oc hl).1, ORep.later hL (fun b hb => hF.heapKeep b (.inr ⟨id, oc, hl, hb⟩)) (hm'.rep id oc hl).2⟩,
        fun id oc b hl hb => ⟨fun hc => (hF.roN b hc).elim (hm'.sep id oc b hl hb).1 fun hc => hc (.inr ⟨id, oc, hl, hb⟩), (hm'.sep id oc b hl hb).2⟩, hm'.inj, hM.rob, fun b hb => Nat.lt_of_lt_of_le (hm.kb b hb) hF.size, hM.gl.mono fun _ hg => ⟨hM.gl.ro hg, rfl⟩⟩
      have T0 : Two 0 keep E' { E' with M := E.M, N := E.N } ob objs' :=
       ⟨rfl, rfl, fun id hi => absurd hi (Nat.not_lt_zero _), Nat.zero_le _, hM.weaker fun _ h => .inl h, hM2, fun b ⟨id, oc, h1, h2⟩ hx => (hM.sep id oc b h1 h2).2 (.inr hx)⟩
      obtain ⟨vs', hvr, ev⟩ := hres
      obtain ⟨A1, B1, g, L, T1, N1, hs⟩ := relayAll outs T0 hvr.toS hpk
      have hN' : ({ E' with M := E.M, N := E.N } : Env).N = S.next := hN
      rw [hN'] at T1 N1 hs
      refine ⟨_, v, { S with objs := (layOut outs y ⟨objs', S.next⟩).2.objs, next := (layOut outs y ⟨objs', S.next⟩).2.next }, B1, rfl, T1.w.trans g.w, hL.trans L, T1.mb, N1, rfl, ResRep.one ⟨vs', hs, ev⟩, h⟩
     ·cases h
   ·rename_i fn body an he
    obtain ⟨h1, h2, h3⟩ := hE f _ he
    generalize reachN S.objs 6 (idsV.idsVs args) = ids at h
    have hin : Mems E (fun b => keep b ∨ Live E (outO ids S.objs) b) (inO ids S.objs) := by
     refine ⟨fun id oc hl => hm.rep id oc (look_inO hl).1, fun id oc b hl hb => ⟨(hm.sep _ _ _ (look_inO hl).1 hb).1, fun hk => ?_⟩, fun id id' oc oc' b hl hl' => hm.inj _ _ _ _ _ (look_inO hl).1 (look_inO hl').1, hm.rob, fun b hb => ?_, hm.gl⟩
     ·rcases hk with hk | ⟨id', oc', h4, h5⟩
      ·exact (hm.sep _ _ _ (look_inO hl).1 hb).2 hk
      ·have := hm.inj _ _ _ _ _ (look_inO hl).1 (look_outO h4).1 hb h5
       subst this
       have h6 := (look_inO hl).2
       rw [(look_outO h4).2] at h6; cases h6
     ·rcases hb with hb | ⟨id', oc', h4, h5⟩
      ·exact hm.kb b hb
      ·exact live_lt (hm.rep _ _ (look_outO h4).1).2 h5
    refine (body_sound (K := fun vs S' => K (oneOf vs) { S with objs := mergeO (outO ids S.objs) (newO ids S.next S'.objs), next := S'.next }) hT hP ih h1 h2 h hin hN hr).mono ?_
    rintro e w' ⟨us, v, S', E', rfl, rfl, hL, hM, hN', hres, hk⟩
    refine ⟨_, v, { S with objs := mergeO (outO ids S.objs) (newO ids S.next S'.objs), next := S'.next }, E', rfl, rfl, hL.weaker fun _ h => .inl h, ?_, hN', rfl, hres.one, hk⟩
    have hout : ∀ id oc, look id (outO ids S.objs) = some oc → id < E.N ∧ E'.M id = E.M id ∧ ORep E (E.M id) oc := fun id oc hl =>
     have h0 := hm.rep _ _ (look_outO hl).1
     ⟨h0.1, hL.M id h0.1, h0.2⟩
    have hnk : ∀ id oc b, look id (outO ids S.objs) = some oc → (E.M id).blk = some b → ¬ E'.ro b := fun id oc b hl hb hr' => by
     rcases hL.roN b hr' with h4 | h4
     ·exact (hm.sep _ _ _ (look_outO hl).1 hb).1 h4
     ·exact h4 (.inr ⟨id, oc, hl, hb⟩)
    refine ⟨fun id oc hl => ?_, fun id oc b hl hb => ?_, fun id id' oc oc' b hl hl' hb hb' => ?_, hM.rob, fun b hb => hM.kb b (.inl hb), hM.gl⟩
    ·rcases look_mergeO hl with hl | hl
     ·obtain ⟨a1, a2, a3⟩ := hout id oc hl
      refine ⟨Nat.lt_of_lt_of_le a1 hL.N, ?_⟩
      rw [a2]
      exact ORep.later hL (fun b hb => hL.heapKeep b (.inr ⟨id, oc, hl, hb⟩)) a3
     ·exact hM.rep _ _ (look_newO hl).1
    ·rcases look_mergeO hl with hl | hl
     ·obtain ⟨a1, a2, a3⟩ := hout id oc hl
      rw [a2] at hb
      exact ⟨hnk id oc b hl hb, (hm.sep _ _ _ (look_outO hl).1 hb).2⟩
     ·exact ⟨(hM.sep _ _ _ (look_newO hl).1 hb).1, fun hk => (hM.sep _ _ _ (look_newO hl).1 hb).2 (.inl hk)⟩
    ·rcases look_mergeO hl with hl | hl <;> rcases look_mergeO hl' with hl' | hl'
     ·rw [(hout id oc hl).2.1] at hb
      rw [(hout id' oc' hl').2.1] at hb'
      exact hm.inj _ _ _ _ _ (look_outO hl).1 (look_outO hl').1 hb hb'
     ·rw [(hout id oc hl).2.1] at hb
      exact absurd (.inr ⟨id, oc, hl, hb⟩) (hM.sep _ _ _ (look_newO hl').1 hb').2
     ·rw [(hout id' oc' hl').2.1] at hb'
      exact absurd (.inr ⟨id', oc', hl', hb'⟩) (hM.sep _ _ _ (look_newO hl).1 hb).2
     ·exact hM.inj _ _ _ _ _ (look_newO hl).1 (look_newO hl').1 hb hb'
end
end Go.Rx
namespace Go.Rx
variable [Inhabited GW]
section
variable {P : Program} {T : Tab} (hT : TabOK P T)
include hT
end
end Go.Rx
namespace Go.Rx
variable [Inhabited GW]
end Go.Rx
namespace Go.Rx
variable [Inhabited GW]
def wf : (t : Ty) → den t → Prop
 | .int k, x => k.min ≤ x ∧ x ≤ k.max
 | .bool, _ => True
 | .str, s => s.size ≤ maxLen
 | .sl t, l => l.length ≤ maxLen ∧ ∀ x ∈ l, wf t x
 | .own t, l => l.length ≤ maxLen ∧ ∀ x ∈ l, wf t x
 | .unit, _ => True
 | .pair a b, x => wf a x.1 ∧ wf b x.2
 | .arr n t, l => l.length = n ∧ ∀ x ∈ l, wf t x
def wfL : (l : List (Bool × Ty)) → denL l → Prop
 | [], _ => True
 | [t], x => wf t.2 x
 | t :: t' :: r, x => wf t.2 x.1 ∧ wfL (t' :: r) x.2
def readsF (P : Program) (r : TypeId → Ty → Bool) : List Field → Nat → Ty → Bool
 | [], _, ty => match ty with
  | .unit => true
  | _ => false
 | f :: l, off, ty => match l with
  | [] => Nat.beq f.offset off && r f.type ty && Nat.beq (P.cellsOf f.type) (width ty)
  | _ :: _ => match ty with
   | .pair a b => Nat.beq f.offset off && r f.type a && Nat.beq (P.cellsOf f.type) (width a) && readsF P r l (off + width a) b
   | _ => false
def readsT (P : Program) : Nat → TypeId → Ty → Bool
 | 0, _, _ => false
 | n + 1, t, ty => match P.underlying t with
  | some .bool => (match ty with
   | .bool => true
   | _ => false)
  | some (.int k) => (match ty with
   | .int k' => decide (k = k')
   | _ => false)
  | some .string => (match ty with
   | .str => true
   | _ => false)
  | some (.slice e) => (match ty with
   | .sl t' => readsT P n e t' && Nat.beq (P.cellsOf e) (width t') && Nat.blt 0 (width t')
   | _ => false)
  | some (.array m e) => (match ty with
   | .arr m' t' => Nat.beq m m' && readsT P n e t' && Nat.beq (P.cellsOf e) (width t') && Nat.beq (P.cellsOf t) (m * width t')
   | _ => false)
  | some (.struct fs) => readsF P (readsT P n) fs.toList 0 ty && Nat.beq (P.cellsOf t) (width ty)
  | _ => false
theorem mapM_opt {α β : Type} {f : α → Option β} : ∀ {l : List α} {r : List β}, l.mapM f = some r → r.length = l.length ∧ ∀ (i : Nat) (a : α), l[i]? = some a → ∃ y, f a = some y ∧ r[i]? = some y
 | [], r, h => by
  simp only [List.mapM_nil] at h
  cases h
  exact ⟨rfl, fun i a h => by simp at h⟩
 | a :: l, r, h => by
  rw [List.mapM_cons] at h
  cases hf : f a with
  | none => rw [hf] at h; cases h
  | some y =>
   rw [hf] at h
   cases hl : l.mapM f with
   | none => rw [hl] at h; cases h
   | some ys =>
    rw [hl] at h
    cases h
    obtain ⟨h1, h2⟩ := mapM_opt hl
    refine ⟨by simp [h1], fun i b hb => ?_⟩
    cases i with
    | zero => cases hb; exact ⟨y, hf, rfl⟩
    | succ i => exact h2 i b (by simpa using hb)
theorem ex_list {α : Type} {p : Nat → α → Prop} : ∀ (n : Nat), (∀ i, i < n → ∃ x, p i x) → ∃ l : List α, l.length = n ∧ ∀ i, (h : i < l.length) → p i l[i]
 | 0, _ => ⟨[], rfl, fun i h => absurd h (Nat.not_lt_zero _)⟩
 | n + 1, h => by
  obtain ⟨l, hl, hp⟩ := ex_list n fun i hi => h i (Nat.lt_succ_of_lt hi)
  obtain ⟨x, hx⟩ := h n (Nat.lt_succ_self _)
  refine ⟨l ++ [x], by simp [hl], fun i hi => ?_⟩
  rcases Nat.lt_or_ge i l.length with h' | h'
  ·rw [List.getElem_append_left h']; exact hp i h'
  ·have : i = n := by simp at hi; omega
   subst this
   rw [List.getElem_append_right h']
   simpa [hl] using hx
theorem all_mem {α : Type} {q : α → Prop} {l : List α} (h : ∀ i, (hi : i < l.length) → q l[i]) : ∀ x ∈ l, q x := by
 intro x hx
 obtain ⟨i, hi, e⟩ := List.getElem_of_mem hx
 rw [← e]; exact h i hi
section
variable {H : Type} {enc : TypeId × Value → H} {P : Program} {E : Env} {base : Nat} {spare : Nat → Bool} {held : Bool}
theorem fields_rep {fuel : Nat} {r : TypeId → Ty → Bool} {cs : List Value}
  (ih : ∀ {t : TypeId} {ty : Ty} {vs : List Value} {d : DataW H × List MemPlace}, r t ty = true → DataW.trod enc P E.w base spare held fuel t vs = some d → ∃ x : den ty, TRep E ty x vs ∧ wf ty x) :
  ∀ (fs : List Field) (off : Nat) (ty : Ty), readsF P r fs off ty = true → (∀ f ∈ fs, ∃ y, DataW.trod enc P E.w base spare held fuel f.type ((cs.drop f.offset).take (P.cellsOf f.type)) = some y) →
   cs.length = off + width ty → ∃ x : den ty, TRep E ty x (cs.drop off) ∧ wf ty x
 | [], off, ty, h, _, hl => by
  cases ty with
  | unit =>
   refine ⟨(), ?_, trivial⟩
   show cs.drop off = []
   exact List.drop_eq_nil_of_le (by rw [hl]; exact Nat.le_refl _)
  | _ => cases h
 | [f], off, ty, h, hf, hl => by
  simp only [readsF, Bool.and_eq_true] at h
  obtain ⟨⟨h1, h2⟩, h3⟩ := h
  obtain ⟨y, hy⟩ := hf f List.mem_cons_self
  rw [Nat.eq_of_beq_eq_true h1, Nat.eq_of_beq_eq_true h3, List.take_of_length_le (by rw [List.length_drop, hl]; omega)] at hy
  exact ih h2 hy
 | f :: g :: l, off, ty, h, hf, hl => by
  cases ty with
  | pair a b =>
   simp only [readsF, Bool.and_eq_true] at h
   obtain ⟨⟨⟨h1, h2⟩, h3⟩, h4⟩ := h
   obtain ⟨y, hy⟩ := hf f List.mem_cons_self
   rw [Nat.eq_of_beq_eq_true h1, Nat.eq_of_beq_eq_true h3] at hy
   obtain ⟨x, hx, wx⟩ := ih h2 hy
   obtain ⟨z, hz, wz⟩ := fields_rep ih (g :: l) (off + width a) b h4 (fun f' hf' => hf f' (List.mem_cons_of_mem _ hf')) (by rw [hl]; simp only [width]; omega)
   refine ⟨(x, z), ⟨(cs.drop off).take (width a), cs.drop (off + width a), ?_, hx, hz⟩, wx, wz⟩
   rw [← List.drop_drop, List.take_append_drop]
  | _ => cases h
theorem cells_get {a : Addr} {n : Nat} {cs : List Value} (h : E.w.cells? base a n = some cs) : cs.length = n ∧ ∀ j v, cs[j]? = some v → E.w.cell? (a.add j) = some v := by
 unfold World.cells? at h
 split at h
 ·obtain ⟨h1, h2⟩ := mapM_opt h
  rw [List.length_range] at h1
  refine ⟨h1, fun j v hj => ?_⟩
  have hlt : j < n := by rw [← h1]; exact (List.getElem?_eq_some_iff.1 hj).1
  obtain ⟨y, h3, h4⟩ := h2 j j (by simp [hlt])
  rw [hj] at h4; cases h4
  exact h3
 ·cases h
theorem add_add {b o : Nat} (n m : Nat) : ((⟨b, o, none⟩ : Addr).add n).add m = ⟨b, o + n + m, none⟩ := by
 unfold Addr.add
 split <;> split <;> simp_all
theorem trod_rep (hro : ∀ b, b < E.w.heap.size → E.ro b) : ∀ (n fuel : Nat) {t : TypeId} {ty : Ty} {cs : List Value} {d : DataW H × List MemPlace}, readsT P n t ty = true → DataW.trod enc P E.w base spare held fuel t cs = some d →
  ∃ x : den ty, TRep E ty x cs ∧ wf ty x
 | 0, _, _, _, _, _, h, _ => nomatch h
 | n + 1, fuel, t, ty, cs, d, h, hd => by
  unfold readsT at h
  split at h
  ·rename_i hu
   obtain ⟨b, rfl, _⟩ := DataW.trod_bool hu hd
   cases ty with
   | bool => exact ⟨b, rfl, trivial⟩
   | _ => cases h
  ·rename_i k hu
   obtain ⟨m, rfl, _, hw⟩ := DataW.trod_int hu hd
   cases ty with
   | int k' =>
    have hk : k = k' := of_decide_eq_true h
    subst hk
    refine ⟨m, rfl, ?_⟩
    simpa [Lit.wf, wf] using hw
   | _ => cases h
  ·rename_i hu
   obtain ⟨s, rfl, _, hs⟩ := DataW.trod_string hu hd
   cases ty with
   | str => exact ⟨s, rfl, hs⟩
   | _ => cases h
  ·rename_i e hu
   cases ty with
   | sl t' =>
    simp only [Bool.and_eq_true] at h
    obtain ⟨⟨h1, h2⟩, h3⟩ := h
    have h2 := Nat.eq_of_beq_eq_true h2
    have h3 : 0 < width t' := by simpa [Nat.blt_eq] using h3
    rcases DataW.trod_slice hu hd with ⟨rfl, _⟩ | ⟨a, len, cap, elems, rest, m, _, rfl, _, hb, hlc, hcm, hel, hget, _⟩
    ·exact ⟨[], ⟨none, 0, rfl, ⟨Nat.le_refl _, fun _ => rfl⟩, .inl rfl⟩, Nat.zero_le _, fun x hx => nomatch hx⟩
    ·rw [h2] at hget
     have each : ∀ i, i < len → ∃ cs', E.w.cells? base (a.add (i * width t')) (width t') = some cs' ∧ ∃ x : den t', TRep E t' x cs' ∧ wf t' x := by
      intro i hi
      have := hget i hi
      have hlt : i < elems.length := by rw [hel]; exact hi
      rw [List.getElem?_eq_getElem hlt, Option.bind_eq_some_iff] at this
      obtain ⟨cs', h4, h5⟩ := this
      exact ⟨cs', h4, trod_rep hro n m h1 h5⟩
     obtain ⟨l, hl, hp⟩ := ex_list (p := fun i (x : den t') => ∃ cs', E.w.cells? base (a.add (i * width t')) (width t') = some cs' ∧ TRep E t' x cs' ∧ wf t' x) len fun i hi => by
      obtain ⟨cs', h4, x, h5, h6⟩ := each i hi
      exact ⟨x, cs', h4, h5, h6⟩
     refine ⟨l, ⟨some a, cap, by rw [hl], ⟨by rw [hl]; exact hlc, fun h => nomatch h⟩, ?_⟩, by rw [hl]; omega, all_mem fun i hi => (hp i hi).choose_spec.2.2⟩
     rcases Nat.eq_zero_or_pos l.length with h0 | h0
     ·exact .inl h0
     ·right
      obtain ⟨cs', h4, h5, _⟩ := hp 0 h0
      obtain ⟨h6, h7⟩ := cells_get h4
      have h8 := h7 0 (cs'[0]'(by omega)) (List.getElem?_eq_getElem _)
      have ha : a.spot = none ∧ a.block < E.w.heap.size := by
       simp only [Nat.zero_mul, Addr.add, if_true, World.cell?] at h8
       split at h8
       ·rename_i c _ _ hc
        split at h8
        ·cases h8
        ·rename_i hs
         exact ⟨by simpa using hs, (Array.getElem?_eq_some_iff.1 hc).1⟩
       ·cases h8
      obtain ⟨b, o, sp⟩ := a
      obtain ⟨rfl, hlt⟩ := ha
      refine ⟨b, o, rfl, hro b hlt, fun i hi => ?_⟩
      obtain ⟨cs', h4, h5, _⟩ := hp i hi
      refine ⟨cs', h5, fun j v hj => ?_⟩
      have := (cells_get h4).2 j v hj
      rwa [add_add] at this
   | _ => cases h
  ·rename_i m e hu
   cases ty with
   | arr m' t' =>
    simp only [Bool.and_eq_true] at h
    obtain ⟨⟨⟨h0, h1⟩, h2⟩, h3⟩ := h
    have h0 := Nat.eq_of_beq_eq_true h0
    have h2 := Nat.eq_of_beq_eq_true h2
    have h3 := Nat.eq_of_beq_eq_true h3
    subst h0
    obtain ⟨xs, f, _, _, hlen, hx, hget⟩ := DataW.trod_array hu hd
    rw [h2] at hget
    obtain ⟨l, hl, hp⟩ := ex_list (p := fun i (x : den t') => TRep E t' x ((cs.drop (i * width t')).take (width t')) ∧ wf t' x) m fun i hi => by
     have := hget i hi
     have hlt : i < xs.length := by rw [hx]; exact hi
     rw [List.getElem?_eq_getElem hlt] at this
     exact trod_rep hro n f h1 this
    refine ⟨l, ⟨hl, by rw [hlen, h3], fun i hi => ⟨_, (hp i hi).1, fun j v hj => ?_⟩⟩, hl, all_mem fun i hi => (hp i hi).2⟩
    rw [List.getElem?_take] at hj
    split at hj
    ·rwa [List.getElem?_drop] at hj
    ·cases hj
   | _ => cases h
  ·rename_i fs hu
   simp only [Bool.and_eq_true] at h
   obtain ⟨h1, h2⟩ := h
   obtain ⟨xs, f, _, _, hlen, hx, hget⟩ := DataW.trod_struct hu hd
   have := fields_rep (enc := enc) (P := P) (E := E) (base := base) (spare := spare) (held := held) (fuel := f) (cs := cs) (fun {t ty vs d} h3 h4 => trod_rep hro n f h3 h4) fs.toList 0 ty h1 (fun fl hfl => by
    obtain ⟨i, hi, e⟩ := List.getElem_of_mem hfl
    have h5 : fs[i]? = some fl := by rw [← e]; simp at hi ⊢
    have h6 := hget i fl h5
    have h7 : i < xs.length := by rw [hx]; simpa using hi
    rw [List.getElem?_eq_getElem h7] at h6
    exact ⟨_, h6⟩) (by rw [hlen, Nat.zero_add]; exact Nat.eq_of_beq_eq_true h2)
   simpa using this
  ·cases h
def aggT (P : Program) (t : TypeId) : Bool :=
 match P.underlying t with
 | some (.struct _) => true
 | some (.array ..) => true
 | _ => false
def readsA (P : Program) (n : Nat) (t : TypeId) (a : Bool × Ty) : Bool :=
 readsT P n t a.2 && a.2.pure && a.2.okp && (a.1 || a.2.scalar) && (aggT P t == a.1)
def readsL (P : Program) (n : Nat) : List TypeId → List (Bool × Ty) → Bool
 | [], [] => true
 | t :: ts, a :: l => readsA P n t a && readsL P n ts l
 | _, _ => false
theorem arg_rep (hro : ∀ b, b < E.w.heap.size → E.ro b) {n : Nat} {t : TypeId} {a : Bool × Ty} {v : Value} {d : DataW H} {p : List MemPlace} {m : Mem} {r : Reach} {w : World} {b0 : Nat} {ob : Objs} (h : readsA P n t a = true)
  (hv : Value.okWide P w r b0 t v) (hd : DataW.Trod enc P E.w base spare held t v d p) : ∃ x : den a.2, wf a.2 x ∧ SRep E (layOne a x m).1 v ∧ takeV a (layOne a x m).1 ob = some (x, ob) ∧ (layOne a x m).2 = m := by
 obtain ⟨agg, ty⟩ := a
 simp only [readsA, Bool.and_eq_true] at h
 obtain ⟨⟨⟨⟨h1, h2⟩, h3⟩, h4⟩, h5⟩ := h
 obtain ⟨fuel, hd⟩ := hd
 obtain ⟨x, hx, wx⟩ := trod_rep hro n fuel h1 hd
 have hl := laid_pure ty x m h2
 have henc := toTy_enc ty x [] ob h2
 rw [appA_nil] at henc
 refine ⟨x, wx, ?_, ?_, by show (laid ty x m).2 = m; rw [hl]⟩
 ·cases agg with
  | true =>
   have : ∃ cs, v = .agg cs := by
    unfold aggT at h5
    unfold Value.okWide at hv
    split at h5
    ·rename_i fs hu
     rw [hu] at hv
     obtain ⟨cs, e, _⟩ := hv
     exact ⟨cs, e⟩
    ·rename_i hu
     rw [hu] at hv
     obtain ⟨cs, e, _⟩ := hv
     exact ⟨cs, e⟩
    ·cases h5
   obtain ⟨cs, rfl⟩ := this
   have he : (layOne (true, ty) x m).1 = .agg (Rx.enc ty x) := by show AV.agg (laid ty x m).1 = _; rw [hl]
   rw [he]
   exact ⟨cs.toList, by simp, enc_rep hx⟩
  | false =>
   have hsc : ty.scalar = true := by simpa using h4
   obtain ⟨c, ec, hcell⟩ := laid_scalar (x := x) (m := m) hsc
   have he : (layOne (false, ty) x m).1 = c := by show headA (laid ty x m).1 = c; rw [ec]; rfl
   have hvc : v.cells = #[v] := by
    unfold aggT at h5
    cases v with
    | agg cs =>
     exfalso
     unfold Value.okWide at hv
     split at h5
     ·cases h5
     ·cases h5
     ·rename_i q1 q2
      cases hu : P.underlying t with
      | none => rw [hu] at hv; simp [Cell.okWide, Cell.ok, hu] at hv
      | some u =>
       rw [hu] at hv
       cases u <;> first
        | exact q1 _ hu
        | exact q2 _ _ hu
        | simp [Cell.okWide, Cell.ok, hu] at hv
    | _ => rfl
   rw [he]
   rw [hvc] at hx
   have h6 := enc_rep hx
   have h7 : Rx.enc ty x = [c] := by rw [← ec, hl]
   rw [h7] at h6
   obtain ⟨u, r', e1, e2, e3⟩ := h6
   have e3 : r' = [] := e3
   rw [e3, List.append_nil] at e1
   rw [← e1] at e2
   have e2 : CRep E c [v] := by simpa using e2
   exact (CRep.toV e2 (by cases c <;> first | rfl | (simp [isCell] at hcell)) (fun n t l e => by rw [e] at hcell; simp [isCell] at hcell)).toS
 ·show (bif ty.okp && fitsA agg (if agg then .agg (laid ty x m).1 else headA (laid ty x m).1) && (agg || ty.scalar) then asTy ty (if agg then .agg (laid ty x m).1 else headA (laid ty x m).1) ob else none) = some (x, ob)
  cases agg with
  | true => simp [h3, fitsA, asTy, cellsOf, hl, henc]
  | false =>
   have hsc : ty.scalar = true := by simpa using h4
   obtain ⟨c, ec, hcell⟩ := laid_scalar (x := x) (m := m) hsc
   rw [← show (laid ty x m).1 = Rx.enc ty x from by rw [hl], ec] at henc
   have hco : cellsOf c = some [c] := by cases c <;> first | (simp [isCell] at hcell; done) | rfl
   have hfi : fitsA false c = true := by cases c <;> first | (simp [isCell] at hcell; done) | rfl
   simp [h3, hsc, ec, headA, hfi, asTy, hco, henc]
theorem args_rep (hro : ∀ b, b < E.w.heap.size → E.ro b) {n : Nat} {r : Reach} {w : World} {b0 : Nat} {m : Mem} {ob : Objs} : ∀ {ts : List TypeId} {ins : List (Bool × Ty)} {vs : List Value} {ds : List (DataW H)} {ps : List MemPlace}, readsL P n ts ins = true →
  (∀ (j : Nat) t v, ts[j]? = some t → vs[j]? = some v → Value.okWide P w r b0 t v) → DataW.TrodAll enc P E.w base spare held ts vs ds ps →
   ∃ x : denL ins, wfL ins x ∧ SRepL E (layAll ins x m).1 vs ∧ packArgs ins (layAll ins x m).1 ob = some (x, ob)
 | [], [], [], _, _, _, _, _ => ⟨(), trivial, rfl, rfl⟩
 | [t], [a], [v], [d], _, h, hv, hd => by
  obtain ⟨p, q, h1, h2, _⟩ := hd
  simp only [readsL, Bool.and_eq_true] at h
  obtain ⟨x, w1, w2, w3, _⟩ := arg_rep (m := m) (ob := ob) hro h.1 (hv 0 t v rfl rfl) h1
  exact ⟨x, w1, ⟨v, [], rfl, w2, rfl⟩, w3⟩
 | t :: t' :: ts, a :: a' :: l, v :: vs, d :: ds, _, h, hv, hd => by
  obtain ⟨p, q, h1, h2, _⟩ := hd
  rw [readsL, Bool.and_eq_true] at h
  obtain ⟨x, w1, w2, w3, w4⟩ := arg_rep (m := m) (ob := ob) hro h.1 (hv 0 t v rfl rfl) h1
  obtain ⟨y, y1, y2, y3⟩ := args_rep (m := m) (ob := ob) hro h.2 (fun j t v h h' => hv (j + 1) t v (by simpa using h) (by simpa using h')) h2
  refine ⟨(x, y), ⟨w1, y1⟩, ?_, ?_⟩
  ·show SRepL E ((layOne a x m).1 :: (layAll (a' :: l) y (layOne a x m).2).1) (v :: vs)
   rw [w4]
   exact ⟨v, vs, rfl, w2, y2⟩
  ·show packArgs (a :: a' :: l) ((layOne a x m).1 :: (layAll (a' :: l) y (layOne a x m).2).1) ob = some ((x, y), ob)
   rw [w4]
   simp only [packArgs, w3, y3]
 | [], _ :: _, _, _, _, h, _, _ => nomatch h
 | _ :: _, [], _, _, _, h, _, _ => nomatch h
 | [], [], _ :: _, [], _, _, _, h => nomatch h
 | [], [], _ :: _, _ :: _, _, _, _, h => nomatch h
 | _ :: _, _ :: _, [], [], _, _, _, h => nomatch h
 | _ :: _, _ :: _, [], _ :: _, _, _, _, h => nomatch h
 | _ :: _, _ :: _, _ :: _, [], _, _, _, h => nomatch h
 | [_], _ :: _ :: _, _ :: _, _ :: _, _, h, _, _ => by simp [readsL] at h
 | _ :: _ :: _, [_], _ :: _, _ :: _, _, h, _, _ => by simp [readsL] at h
 | [_], [_], _ :: _ :: _, [_], _, _, _, h => by obtain ⟨_, _, _, h, _⟩ := h; exact h.elim
 | [_], [_], _ :: _ :: _, _ :: _ :: _, _, _, _, h => by obtain ⟨_, _, _, h, _⟩ := h; exact h.elim
 | [_], [_], [_], _ :: _ :: _, _, _, _, h => by obtain ⟨_, _, _, h, _⟩ := h; exact h.elim
theorem post_of_quiet {f : Func} {s : ChangeSpec} {fresh handsOn again : Bool} {W W' : World} {args : Array Value} {ds : List (DataW H)} {before : List MemPlace} {tb : TypeId} (hl : laidOutB P = true)
  (hread : f.params.toList.all (fun t => P.readableRec t && decide (t < P.types.size)) = true) (hvars : s.vars = [])
  (hW : DataW.Whole enc P f.params.toList [] false W args.toList ds [] before) (hs : s.fn H (ds ++ []) = { results := [.lit (.bool true)], args := ds })
  (hsame : ∀ b, b < W.heap.size → W'.heap[b]? = W.heap[b]?) (hq : Quiet W W') (hr : f.resultTypes = #[tb]) (hb : P.underlying tb = some .bool) :
  s.post enc P f false fresh handsOn again W args (.bool true) W' := by
 have hlt : ∀ p ∈ before, p.block < W.heap.size := fun p hp => hW.lt p hp
 obtain ⟨p, q, hA, hV, e, hz, hn⟩ := hW
 have hq0 : q = [] := hV
 subst hq0
 rw [List.append_nil] at e
 have e : p = before := e.symm
 subst e
 have key : ∀ {ts : List TypeId} {vs : List Value} {ds : List (DataW H)} {ps : List MemPlace} {sp : Nat → Bool}, (∀ t ∈ ts, P.readableRec t = true ∧ t < P.types.size) → (∀ p ∈ ps, p.block < W.heap.size) → (∀ p ∈ ps, sp p.block = true) →
   DataW.TrodAll enc P W 0 (fun _ => true) true ts vs ds ps → DataW.TrodAll enc P W' 0 sp true ts vs ds ps := by
  intro ts
  induction ts with
  | nil =>
   intro vs ds ps sp _ _ _ h
   match vs, ds, h with
   | [], [], h => exact h
  | cons t ts ih =>
   intro vs ds ps sp ht hp hsp h
   match vs, ds, h with
   | v :: vs, d :: ds, ⟨p1, q1, h1, h2, e⟩ =>
    subst e
    obtain ⟨g1, g2⟩ := ht t List.mem_cons_self
    refine ⟨p1, q1, WideElems.Trod_stays hl g1 g2 h1 (fun x hx => ?_) (fun x hx => hsp x (List.mem_append_left _ hx)), ih (fun t h => ht t (List.mem_cons_of_mem _ h)) (fun x hx => hp x (List.mem_append_right _ hx)) (fun x hx => hsp x (List.mem_append_right _ hx)) h2, rfl⟩
    have hx' := hp x (List.mem_append_left _ hx)
    cases x with
    | cell b o => exact World.cell?_of_block (w := W) (hsame b hx')
    | map b => exact hsame b hx'
 have hts : ∀ t ∈ f.params.toList, P.readableRec t = true ∧ t < P.types.size := fun t ht => by
  have := List.all_eq_true.1 hread t ht
  simpa using this
 have hargs : ∀ sp : Nat → Bool, (∀ x ∈ p, sp x.block = true) → DataW.TrodAll enc P W' 0 sp true f.params.toList args.toList (s.fn H (ds ++ [])).args p := fun sp hsp => by
  rw [hs]; exact key hts hlt hsp hA
 have hres : ∀ (b : Nat) (sp : Nat → Bool) (hd : Bool), DataW.TrodAll enc P W' b sp hd f.resultTypes.toList ((Value.bool true).resultList f.resultTypes.size) (s.fn H (ds ++ [])).results [] := fun b sp hd => by
  rw [hs, hr]
  exact ⟨[], [], RowKit.shut_bool hb true, rfl, rfl⟩
 have hold : ∀ x ∈ p, (fun b => decide (b < W.heap.size)) x.block = true := fun x hx => by simpa using hlt x hx
 have hvv : ∀ sp : Nat → Bool, DataW.TrodVars enc P W' sp s.vars (s.fn H (ds ++ [])).vars [] := fun sp => by rw [hs, hvars]; exact rfl
 refine ⟨ds, [], p, [], p, [], ?_, hres _ _ _, hargs _ hold, hvv _, ⟨hq.1, hq.2, fun i hi => ?_⟩, fun _ => ?_⟩
 ·rw [hvars]
  exact ⟨p, [], hA, rfl, by simp, hz, hn⟩
 ·rw [hsame i hi]
  cases W.heap[i]? with
  | none => rfl
  | some o => cases o <;> simp
 ·refine ⟨RowKit.ok_one hr rfl (by simp [Value.okWide, Cell.okWide, Cell.ok, hb]), _, _, ([] ++ p) ++ [], ⟨[] ++ p, [], ChangeShapes.trodAll_append (hargs _ (fun _ _ => rfl)) (hres _ _ _), hvv _, rfl, ?_, ?_⟩, ?_⟩
  ·intro b off hp
   have hp : MemPlace.cell b off ∈ p := by simpa using hp
   have h1 := hlt _ hp
   have h2 := hz b off hp
   unfold World.frozen? at h2 ⊢
   rw [hsame b h1]
   exact h2
  ·intro ha; cases ha
  ·intro x hx _
   simpa using hx
def callsOK (P : Program) : List (Nat × Callee) → Prop
 | [] => True
 | (f, c) :: l => CalleeOK P f c ∧ callsOK P l
theorem callsOK_get : ∀ {l : List (Nat × Callee)}, callsOK P l → ∀ f c, eget f l = some c → CalleeOK P f c
 | [], _, f, c, h => nomatch h
 | (j, d) :: l, hl, f, c, h => by
  simp only [eget] at h
  rcases bif_some h with ⟨h0, h⟩ | ⟨_, h⟩
  ·cases h
   rw [← Nat.eq_of_beq_eq_true h0]
   exact hl.1
  ·exact callsOK_get hl.2 f c h
theorem law_calls_q {f : FuncId} {F : Func} {ins : List (Bool × Ty)} {fn : denL ins → Option Bool} (hC : Contract P f ins [(false, .bool)] fn) {n : Nat} (hreads : readsL P n F.params.toList ins = true)
  {Q : denL ins → Prop} (hlaw : ∀ x, wfL ins x → Q x → fn x = some true) (hl : laidOutB P = true) (hread : F.params.toList.all (fun t => P.readableRec t && decide (t < P.types.size)) = true) {tb : TypeId} (hr : F.resultTypes = #[tb])
  (hb : P.underlying tb = some .bool) {s : ChangeSpec} (hvars : s.vars = []) (hs : ∀ ds : List (DataW H), ds.length = F.params.size → s.fn H ds = { results := [.lit (.bool true)], args := ds })
  {W : World} (hlaid : LaidE { w := W, ro := fun b => b < W.heap.size, M := fun _ => ⟨none, 0, 0, 0, 0⟩, N := 0 }) {base : Nat} {args : Array Value} {ds gs : List (DataW H)} {before : List MemPlace} {fresh handsOn again : Bool}
  (hval : ∀ (j : Nat) t v, F.params[j]? = some t → args[j]? = some v → Value.okWide P W .any base t v)
  (hW : DataW.Whole enc P F.params.toList s.vars false W args.toList ds gs before) (hQ : ∀ x, wfL ins x → SRepL { w := W, ro := fun b => b < W.heap.size, M := fun _ => ⟨none, 0, 0, 0, 0⟩, N := 0 } (layAll ins x ⟨[], 0⟩).1 args.toList → Q x) :
  Calls P f args W fun e W' => ∃ v, e = .returned v ∧ s.post enc P F false fresh handsOn again W args v W' := by
 rw [hvars] at hW
 have hW0 := hW
 obtain ⟨p, q, hA, hV, e, hz, hn⟩ := hW
 have hgs : gs = [] := by
  cases gs with
  | nil => rfl
  | cons => cases hV
 subst hgs
 let E0 : Env := { w := W, ro := fun b => b < W.heap.size, M := fun _ => ⟨none, 0, 0, 0, 0⟩, N := 0 }
 obtain ⟨x, wx, hrep, hpk⟩ := args_rep (E := E0) (m := ⟨[], 0⟩) (ob := []) (fun b hb => hb) hreads (fun j t v h1 h2 => hval j t v (by simpa using h1) (by simpa using h2)) hA
 have hm : Mems E0 (fun _ => False) [] := ⟨fun id oc h => (nomatch h), fun id oc b h => (nomatch h), fun id id' oc oc' b h => (nomatch h), fun b h => h, fun b h => h.elim, hlaid⟩
 have hcall := hC.ok x true (hlaw x wx (hQ x wx hrep)) (fun _ => False) E0 _ args.toList [] [] hm hrep hpk
 have hargs : args.toList.toArray = args := by simp
 rw [hargs] at hcall
 refine hcall.mono ?_
 rintro ex W' ⟨us, v, ob, ob', E', rfl, rfl, hres, _, hpk', hF⟩
 have hv : v = .bool true := by
  obtain ⟨vs, h1, h2⟩ := hres
  match us, h1, hpk' with
  | [a], h1, hpk' =>
   obtain ⟨x, r, rfl, r1, r2⟩ := h1
   have r2 : r = [] := r2
   subst r2
   have h3 : v = x := by rw [h2]; simp
   subst h3
   simp only [packArgs, takeV] at hpk'
   rcases bif_some hpk' with ⟨h0, h4⟩ | ⟨_, h4⟩
   ·cases a with
    | bool b =>
     simp [asTy, cellsOf, toTy] at h4
     rw [← h4.1]
     have : CRep E' (.bool b) [v] := r1
     have h5 : [v] = [Value.bool b] := this
     simpa using h5
    | agg cs => simp [fitsA] at h0
    | _ => simp [asTy, cellsOf, toTy] at h4
   ·cases h4
 subst hv
 have hlen : ds.length = F.params.size := by
  have : ∀ {ts : List TypeId} {vs : List Value} {ds : List (DataW H)} {ps : List MemPlace}, DataW.TrodAll enc P W 0 (fun _ => true) true ts vs ds ps → ds.length = ts.length := by
   intro ts
   induction ts with
   | nil =>
    intro vs ds ps h
    match vs, ds, h with
    | [], [], _ => rfl
   | cons t ts ih =>
    intro vs ds ps h
    match vs, ds, h with
    | v :: vs, d :: ds, ⟨_, _, _, h2, _⟩ => simp [ih h2]
  simpa using this hA
 exact ⟨_, rfl, post_of_quiet hl hread hvars hW0 (by rw [List.append_nil]; exact hs ds hlen) (fun b hb => hF.heapRo b hb) hF.out hr hb⟩
theorem slice_small {W : World} {t e : TypeId} (hu : P.underlying t = some (.slice e)) (he : 1 ≤ P.bytesOf e) {base : Nat} {spare : Nat → Bool} {held : Bool} {a : Option Addr} {len cap : Nat} {d : DataW H} {p : List MemPlace}
  (hd : DataW.Trod enc P W base spare held t (.slice a len cap) d p) (hw : ∀ x ∈ d.weights P t, x ≤ reachBytes) : len ≤ 140737488355328 := by
 obtain ⟨fuel, hd⟩ := hd
 rcases DataW.trod_slice hu hd with ⟨e1, _⟩ | ⟨a, len', cap', elems, rest, n, _, e1, e2, _, _, _, hel, _⟩
 ·have : len = 0 := by simpa [Value.cells] using (congrArg (fun l => l) e1 : _) |> fun h => by simp [Value.cells] at e1; exact e1.2.1
  omega
 ·have h1 : len = len' := by simp [Value.cells] at e1; exact e1.2.1
  have h2 : d = .slice (elems.map (·.1)) (rest.map (·.1)) := (Prod.mk.inj e2).1
  rw [h2] at hw
  unfold DataW.weights at hw
  rw [hu] at hw
  have h3 := hw _ List.mem_cons_self
  rw [List.length_map, List.length_map, hel] at h3
  have h4 : len' * 1 ≤ (len' + rest.length) * P.bytesOf e := Nat.mul_le_mul (by omega) he
  unfold reachBytes at h3
  omega
theorem two_small {W : World} {ts us : List TypeId} {t1 t2 e1 e2 : TypeId} (hp : ts = [t1, t2]) (hu1 : P.underlying t1 = some (.slice e1)) (hu2 : P.underlying t2 = some (.slice e2)) (he1 : 1 ≤ P.bytesOf e1) (he2 : 1 ≤ P.bytesOf e2)
  {vs : List Value} {ds gs : List (DataW H)} {before : List MemPlace} (hW : DataW.Whole enc P ts [] false W vs ds gs before) (hw : (DataW.weightsEach P (ts ++ us) (ds ++ gs)).all (· ≤ reachBytes) = true)
  {a b : Ty} {x : List (den a) × List (den b)} {E : Env} (hs : SRepL E (layAll [(false, .sl a), (false, .sl b)] x ⟨[], 0⟩).1 vs) : x.1.length ≤ 140737488355328 ∧ x.2.length ≤ 140737488355328 := by
 subst hp
 obtain ⟨p, q, hA, hV, e, hz, hn⟩ := hW
 obtain ⟨v1, r1, rfl, h1, v2, r2, rfl, h2, h3⟩ := hs
 obtain ⟨a1, c1, f1, _⟩ := (show TRep E (.sl a) x.1 [v1] from h1)
 obtain ⟨a2, c2, f2, _⟩ := (show TRep E (.sl b) x.2 [v2] from h2)
 have f1 : v1 = .slice a1 x.1.length c1 := by simpa using f1
 have f2 : v2 = .slice a2 x.2.length c2 := by simpa using f2
 subst f1 f2
 match ds, hA with
 | d1 :: ds, hA =>
  obtain ⟨p1, q1, g1, hA, _⟩ := hA
  match ds, hA with
  | d2 :: ds, hA =>
   obtain ⟨p2, q2, g2, _, _⟩ := hA
   have hw' := List.all_eq_true.1 hw
   have key : ∀ x ∈ d1.weights P t1 ++ d2.weights P t2, x ≤ reachBytes := fun x hx => by
    have : x ∈ DataW.weightsEach P ([t1, t2] ++ us) ((d1 :: d2 :: ds) ++ gs) := by
     show x ∈ d1.weights P t1 ++ (d2.weights P t2 ++ _)
     rw [← List.append_assoc]
     exact List.mem_append_left _ hx
    simpa using hw' x this
   exact ⟨slice_small hu1 he1 g1 fun x hx => key x (List.mem_append_left _ hx), slice_small hu2 he2 g2 fun x hx => key x (List.mem_append_right _ hx)⟩
end
end Go.Rx
namespace Go.Rx
variable [Inhabited GW]
structure CE (P : Program) where
 f : FuncId
 c : Callee
 ok : CalleeOK P f c
def ceL {P : Program} : List (CE P) → List (Nat × Callee)
 | [] => []
 | e :: l => (e.f, e.c) :: ceL l
theorem ceL_ok {P : Program} : ∀ l : List (CE P), callsOK P (ceL l)
 | [] => trivial
 | e :: l => ⟨e.ok, ceL_ok l⟩
abbrev ceS {P : Program} {f : FuncId} {i o : List (Bool × Ty)} {fn : denL i → Option (denL o)} (h : Contract P f i o fn) : CE P := ⟨f, .sem i o fn, h⟩
abbrev ceI {P : Program} {f : FuncId} {F : Func} (hf : P.funcs[f]? = some F) (a : Ann) (h : (match F.body with | some _ => F.name == "runtime.NumGoroutine" | none => true) = false) : CE P :=
 ⟨f, .inl F (F.body.getD .skip) a, hf, by cases e : F.body with
  | none => rw [e] at h; cases h
  | some b => rfl, by cases e : F.body with
  | none => rw [e] at h; cases h
  | some b => rw [e] at h; exact h⟩
theorem mkC {P : Program} {T : Tab} (hT : TabOK P T) (hP : P.follows .mixedOrders = true) {f : FuncId} {F : Func} (hf : P.funcs[f]? = some F) {i o : List (Bool × Ty)} {fn : denL i → Option (denL o)} (a : Ann) (l : List (CE P))
  (hb : (match F.body with | some _ => F.name == "runtime.NumGoroutine" | none => true) = false) (h : ∀ x, evalF T (ceL l) 8 F (F.body.getD .skip) a i o x = fn x) : Contract P f i o fn :=
 evalF_contract hT hP (handler_sound hT hP (callsOK_get (ceL_ok l)) 8) hf (body := F.body.getD .skip) (by cases e : F.body with
  | none => rw [e] at hb; cases hb
  | some b => rfl) (by cases e : F.body with
  | none => rw [e] at hb; cases hb
  | some b => rw [e] at hb; exact hb) h
end Go.Rx
namespace Go.Rx
variable [Inhabited GW]
variable {H : Type}
def undatP : List (DataW H) → DataW H
 | [d] => d
 | l => .agg l
def undat : (t : Ty) → DataW H → Option (den t)
 | .int k, d => match d with
  | .lit (.int k' n) => if k = k' then some n else none
  | _ => none
 | .bool, d => match d with
  | .lit (.bool b) => some b
  | _ => none
 | .str, d => match d with
  | .lit (.string bs) => some ⟨bs.toArray⟩
  | _ => none
 | .arr n t, d => match d with
  | .agg ds => if ds.length = n then ds.mapM (undat t) else none
  | _ => none
 | .pair a b, d => match d with
  | .agg (d1 :: r) => (undat a d1).bind fun x => (undat b (undatP r)).bind fun y => some (x, y)
  | _ => none
 | .unit, d => match d with
  | .agg [] => some ()
  | _ => none
 | _, _ => none
def readsFl (P : Program) : Nat → TypeId → Ty → Bool
 | 0, _, _ => false
 | n + 1, t, ty => match P.underlying t with
  | some .bool => (match ty with
   | .bool => true
   | _ => false)
  | some (.int k) => (match ty with
   | .int k' => decide (k = k')
   | _ => false)
  | some .string => (match ty with
   | .str => true
   | _ => false)
  | some (.array m e) => (match ty with
   | .arr m' t' => Nat.beq m m' && readsFl P n e t' && Nat.beq (P.cellsOf e) (width t') && Nat.beq (P.cellsOf t) (m * width t')
   | _ => false)
  | some (.struct fs) => readsF P (readsFl P n) fs.toList 0 ty && Nat.beq (P.cellsOf t) (width ty) && Nat.blt 1 fs.toList.length
  | _ => false
section
variable {enc : TypeId × Value → H} {P : Program} {E : Env} {base : Nat} {spare : Nat → Bool} {held : Bool}
theorem fields_flat {fuel : Nat} {r : TypeId → Ty → Bool} {cs : List Value}
  (ih : ∀ {t : TypeId} {ty : Ty} {vs : List Value} {d : DataW H × List MemPlace}, r t ty = true → DataW.trod enc P E.w base spare held fuel t vs = some d → ∀ x, undat ty d.1 = some x → TRep E ty x vs) :
  ∀ (fs : List Field) (off : Nat) (ty : Ty) (ds : List (DataW H × List MemPlace)), readsF P r fs off ty = true → ds.length = fs.length →
   (∀ (i : Nat) (f : Field), fs[i]? = some f → DataW.trod enc P E.w base spare held fuel f.type ((cs.drop f.offset).take (P.cellsOf f.type)) = ds[i]?) →
   cs.length = off + width ty → ∀ x, undat ty (undatP (ds.map (·.1))) = some x → TRep E ty x (cs.drop off)
 | [], off, ty, ds, h, hl, _, hc, x, hx => by
  cases ty with
  | unit =>
   show cs.drop off = []
   exact List.drop_eq_nil_of_le (by rw [hc]; exact Nat.le_refl _)
  | _ => cases h
 | [f], off, ty, ds, h, hl, hf, hc, x, hx => by
  simp only [readsF, Bool.and_eq_true] at h
  obtain ⟨⟨h1, h2⟩, h3⟩ := h
  match ds, hl with
  | [d], _ =>
   have hy := hf 0 f rfl
   rw [Nat.eq_of_beq_eq_true h1, Nat.eq_of_beq_eq_true h3, List.take_of_length_le (by rw [List.length_drop, hc]; omega)] at hy
   exact ih h2 hy x hx
 | f :: g :: l, off, ty, ds, h, hl, hf, hc, x, hx => by
  cases ty with
  | pair a b =>
   simp only [readsF, Bool.and_eq_true] at h
   obtain ⟨⟨⟨h1, h2⟩, h3⟩, h4⟩ := h
   match ds, hl with
   | d :: d' :: r, hl =>
    have hy := hf 0 f rfl
    rw [Nat.eq_of_beq_eq_true h1, Nat.eq_of_beq_eq_true h3] at hy
    have hx : ((undat a d.1).bind fun x => (undat b (undatP ((d' :: r).map (·.1)))).bind fun y => some (x, y)) = some x := hx
    rw [Option.bind_eq_some_iff] at hx
    obtain ⟨u, hu, hx⟩ := hx
    rw [Option.bind_eq_some_iff] at hx
    obtain ⟨v, hv, hx⟩ := hx
    cases hx
    have hz := fields_flat ih (g :: l) (off + width a) b (d' :: r) h4 (by simpa using hl) (fun i f' hf' => by simpa using hf (i + 1) f' (by simpa using hf')) (by rw [hc]; simp only [width]; omega) v hv
    refine ⟨(cs.drop off).take (width a), cs.drop (off + width a), ?_, ih h2 hy u hu, hz⟩
    rw [← List.drop_drop, List.take_append_drop]
  | _ => cases h
theorem flat_rep : ∀ (n fuel : Nat) {t : TypeId} {ty : Ty} {cs : List Value} {d : DataW H × List MemPlace}, readsFl P n t ty = true → DataW.trod enc P E.w base spare held fuel t cs = some d →
  ∀ x, undat ty d.1 = some x → TRep E ty x cs
 | 0, _, _, _, _, _, h, _, _, _ => nomatch h
 | n + 1, fuel, t, ty, cs, d, h, hd, x, hx => by
  unfold readsFl at h
  split at h
  ·rename_i hu
   obtain ⟨b, rfl, rfl⟩ := DataW.trod_bool hu hd
   cases ty with
   | bool => cases hx; rfl
   | _ => cases h
  ·rename_i k hu
   obtain ⟨m, rfl, rfl, hw⟩ := DataW.trod_int hu hd
   cases ty with
   | int k' =>
    have hk : k = k' := of_decide_eq_true h
    subst hk
    have hx : (if k = k then some m else none) = some x := hx
    rw [if_pos rfl] at hx
    cases hx; rfl
   | _ => cases h
  ·rename_i hu
   obtain ⟨s, rfl, rfl, hs⟩ := DataW.trod_string hu hd
   cases ty with
   | str =>
    have hx : some (⟨s.data.toList.toArray⟩ : ByteArray) = some x := hx
    cases hx
    show _ = _
    simp
   | _ => cases h
  ·rename_i m e hu
   cases ty with
   | arr m' t' =>
    simp only [Bool.and_eq_true] at h
    obtain ⟨⟨⟨h0, h1⟩, h2⟩, h3⟩ := h
    have h0 := Nat.eq_of_beq_eq_true h0
    have h2 := Nat.eq_of_beq_eq_true h2
    have h3 := Nat.eq_of_beq_eq_true h3
    subst h0
    obtain ⟨xs, f, _, rfl, hlen, hxs, hget⟩ := DataW.trod_array hu hd
    rw [h2] at hget
    have hx : (if (xs.map (·.1)).length = m then (xs.map (·.1)).mapM (undat t') else none) = some x := hx
    rw [if_pos (by rw [List.length_map, hxs])] at hx
    obtain ⟨hl, hp⟩ := mapM_opt hx
    rw [List.length_map, hxs] at hl
    refine ⟨hl, by rw [hlen, h3], fun i hi => ?_⟩
    have him : i < m := by omega
    have hg := hget i him
    have hlt : i < xs.length := by omega
    rw [List.getElem?_eq_getElem hlt] at hg
    obtain ⟨y, hy, hy2⟩ := hp i (xs[i].1) (by rw [List.getElem?_map, List.getElem?_eq_getElem hlt]; rfl)
    rw [List.getElem?_eq_getElem hi] at hy2
    cases hy2
    refine ⟨_, flat_rep n f h1 hg _ hy, fun j v hj => ?_⟩
    rw [List.getElem?_take] at hj
    split at hj
    ·rwa [List.getElem?_drop] at hj
    ·cases hj
   | _ => cases h
  ·rename_i fs hu
   simp only [Bool.and_eq_true] at h
   obtain ⟨⟨h1, h2⟩, h3⟩ := h
   have h3 : 1 < fs.toList.length := by simpa [Nat.blt_eq] using h3
   obtain ⟨xs, f, _, rfl, hlen, hxs, hget⟩ := DataW.trod_struct hu hd
   have hxl : xs.length = fs.toList.length := by rw [hxs]; simp
   have hP : undatP (xs.map (·.1)) = .agg (xs.map (·.1)) := by
    match xs, hxl with
    | [], e => rw [← e] at h3; cases h3
    | [_], e => rw [← e] at h3; simp at h3
    | _ :: _ :: _, _ => rfl
   have := fields_flat (enc := enc) (P := P) (E := E) (base := base) (spare := spare) (held := held) (fuel := f) (cs := cs) (fun {t ty vs d} h3 h4 => flat_rep n f h3 h4) fs.toList 0 ty xs h1 hxl (fun i fl hfl => hget i fl (by simpa using hfl)) (by rw [hlen, Nat.zero_add]; exact Nat.eq_of_beq_eq_true h2) x (by rw [hP]; exact hx)
   simpa using this
  ·cases h
end
structure GVar where
 name : String
 g : Nat
 t : TypeId
 ty : Ty
 x : den ty
def GVar.fits (P : Program) (v : GVar) : Prop :=
 P.globalNamed v.name = some v.g ∧ (P.globals[v.g]?).map (·.type) = some v.t ∧ v.ty.flat = true ∧ 0 < width v.ty ∧ readsFl P 4 v.t v.ty = true
abbrev startE (W : World) : Env := { w := W, ro := fun b => b < W.heap.size, M := fun _ => ⟨none, 0, 0, 0, 0⟩, N := 0 }
theorem laid_vars {P : Program} {W : World} : ∀ {l : List (GVar × DataW Unit)} {ps : List MemPlace}, DataW.LaidVars P W (l.map fun e => (e.1.name, e.2)) ps → (∀ e ∈ l, e.1.fits P ∧ undat e.1.ty e.2 = some e.1.x) →
  ∀ e ∈ l, e.1.ty.flat = true ∧ e.1.g < W.heap.size ∧ ∃ cs et fz, W.heap[e.1.g]? = some (.cells cs et fz) ∧ TRep (startE W) e.1.ty e.1.x cs.toList
 | [], _, _, _, v, hv => nomatch hv
 | e0 :: l, _, hL, hall, e, hv => by
  obtain ⟨g, t, cs, fuel, p, q, e1, e2, e3, e4, e5, _⟩ := hL
  rcases List.mem_cons.1 hv with rfl | hv
  ·obtain ⟨⟨f1, f2, f3, f4, f5⟩, hu⟩ := hall e List.mem_cons_self
   have e1 : P.globalNamed e.1.name = some g := e1
   rw [f1] at e1; cases e1
   rw [f2] at e2; cases e2
   have hrep := flat_rep (E := startE W) 4 fuel f5 e4 _ hu
   simp only [World.var?, f1, Option.bind_some] at e3
   split at e3
   ·rename_i c ty fz hc
    cases e3
    exact ⟨f3, (Array.getElem?_eq_some_iff.1 hc).1, _, _, _, hc, hrep⟩
   ·cases e3
  ·exact laid_vars e5 (fun e he => hall e (List.mem_cons_of_mem _ he)) e hv
theorem laidE_of {P : Program} {W : World} {l : List (GVar × DataW Unit)} (h : laidMetH P (l.map fun e => (e.1.name, e.2)) W) (hn : (l.map fun e => (e.1.name, e.2)).all (fun x => x.2.handleName?.isNone) = true)
  (hall : ∀ e ∈ l, e.1.fits P ∧ undat e.1.ty e.2 = some e.1.x) (hg : ∀ g t x, gfind g = some ⟨t, x⟩ → ∃ e ∈ l, e.1.g = g ∧ (⟨e.1.ty, e.1.x⟩ : (t : Ty) × den t) = ⟨t, x⟩) : LaidE (startE W) := by
 rw [MakeChecks.laidMetH_plain _ _ _ hn] at h
 obtain ⟨ps, hL, _⟩ := h
 intro g t x hf
 obtain ⟨e, he, rfl, ee⟩ := hg g t x hf
 obtain ⟨h1, h2, h3⟩ := laid_vars hL hall e he
 cases ee
 exact ⟨h1, h2, h3⟩
end Go.Rx
namespace Go.Rx
variable [Inhabited GW]
open Go.RowKit
def LaidW (W : World) : Prop := ∃ E : Env, E.w = W ∧ LaidE E
theorem hand_contract {P : Program} {f : FuncId} {F : Func} (hf : P.funcs[f]? = some F) (hname : (F.name == "runtime.NumGoroutine") = false) (hb : F.body.isNone = false) {a : Ty} (V : den a → Value)
  (ha : ∀ (B : Env) (x : den a) (xv : Value), VRep B (layOne (false, a) x ⟨[], 0⟩).1 xv → xv = V x) {fn : den a → Option ByteArray}
  (h : ∀ x y, fn x = some y → ∀ W, LaidW W → Calls P f #[V x] W fun e W' => e = .returned (.string y) ∧ Below W.heap.size W W') : Contract P f [(false, a)] [(false, .str)] fn := by
 refine ⟨⟨F, hf, hname, hb⟩, fun x y hxy keep E vs vals objs objs' hm hr hp => ?_⟩
 have T0 : Two 0 keep E { E with N := 0 } objs [] :=
  ⟨rfl, rfl, fun _ _ => rfl, Nat.le_refl _, hm, ⟨fun id oc h => (nomatch h), fun id oc b h => (nomatch h), fun id id' oc oc' b h => (nomatch h), hm.rob, hm.kb, hm.gl.mono fun _ hg => ⟨hm.gl.ro hg, rfl⟩⟩, fun b _ ⟨id, oc, h1, _⟩ => (nomatch h1)⟩
 obtain ⟨A, B, g, L, T1, N1, hs⟩ := relayAll [(false, a)] T0 hr hp
 have hlive : ∀ b, Live E objs' b → b < E.w.heap.size := fun b ⟨id, oc, h1, h2⟩ => by
  have := live_lt (T1.ma.rep _ _ h1).2 (by rw [g.M]; exact h2)
  rwa [g.w] at this
 have hv : vals = [V x] := by
  obtain ⟨v, r, rfl, h1, h2⟩ := hs
  have h2 : r = [] := h2
  rw [h2, ha B x v h1]
 subst hv
 refine (h x y hxy E.w ⟨E, rfl, hm.gl⟩).mono ?_
 rintro e w' ⟨rfl, hB⟩
 refine ⟨[.str y], .string y, [], [], { E with w := w' }, rfl, rfl, ⟨[.string y], ⟨_, _, rfl, rfl, rfl⟩, rfl⟩, ⟨fun id oc h => (nomatch h), fun id oc b h => (nomatch h), fun id id' oc oc' b h => (nomatch h), fun b hb => Nat.lt_of_lt_of_le (hm.rob b hb) hB.size, fun b hb => ?_, hm.gl.mono fun q hg => ⟨hm.gl.ro hg, hB.block q (hm.rob q (hm.gl.ro hg))⟩⟩, rfl, ⟨⟨hB.os, hB.output⟩, fun _ h => h, fun _ h => .inl h, hB.size, fun b hb => hB.block b (hm.rob b hb), fun b hb => hB.block b ?_⟩⟩
 ·exact hb.elim (fun hb => Nat.lt_of_lt_of_le (hm.kb b hb) hB.size) fun hb => Nat.lt_of_lt_of_le (hlive b hb) hB.size
 ·exact hb.elim (hm.kb b) (hlive b)
theorem tab_is {P : Program} {W : World} (hW : LaidW W) {name : String} {g : Nat} (hg : P.globalNamed name = some g) {n : Nat} {k : IntKind} {l : List Int} (hf : gfind g = some ⟨.arr n (.int k), l⟩) : Lib.TabIs P W name k l := by
 obtain ⟨E, rfl, hE⟩ := hW
 obtain ⟨_, _, cs, e, fz, h1, h2⟩ := hE g _ _ hf
 unfold Lib.TabIs
 simp only [World.var?, hg, Option.bind_some, h1, Option.some.injEq]
 obtain ⟨e1, e2, r⟩ := h2
 have e1 : l.length = n := e1
 apply Array.ext'
 rw [List.toList_toArray]
 apply List.ext_getElem?
 intro i
 by_cases hi : i < l.length
 ·obtain ⟨c, r1, r2⟩ := r i hi
  have r1 : c = [.int k l[i]] := r1
  have := r2 0 (.int k l[i]) (by rw [r1]; rfl)
  rw [List.getElem?_map, List.getElem?_eq_getElem hi]
  rw [show i * width (.int k) + 0 = i by simp [width]] at this
  exact this
 ·rw [List.getElem?_eq_none (by rw [e2]; simp only [width]; omega), List.getElem?_eq_none (by rw [List.length_map]; omega)]
end Go.Rx
