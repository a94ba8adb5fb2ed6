/- Parts of a proof: evaluation of Go code over typed values, and what it computes. -/
import Derived.Test.YtkhndaanjpmgnaaDoorX3
import Derived.Laws.Externs
import Derived.Test.YtkhndaanjpmgnaaDoorX1
import Derived.ChangeSame
import Derived.Carry
import Derived.OpenShut
import Derived.Test.YtkhndaanjpmgnaaDoorX2
import Derived.Laws.CopyRow
import Derived.Lib.Overlaps
import Derived.Lib.AppendZerosOnto
import Derived.Lib.JoinLaws
import Derived.Shelf.Spec.SlicesInsert
import Derived.LaidLaws
import Derived.LaidHandle
import Derived.LaidMore
import Derived.MakeChecks
import Derived.FnData
import Derived.Below
import Derived.Lib.LaidTab
set_option linter.unusedSimpArgs false
set_option linter.unusedVariables false
set_option linter.unusedSectionVars false
namespace Go.Rx
variable [Inhabited GW]
structure Frame1 (keep : Nat → Prop) (E E' : Env) : Prop where
 out : Quiet E.w E'.w
 ro : ∀ b, E.ro b → E'.ro b
 roN : ∀ b, E'.ro b → E.ro b ∨ ¬ keep b
 size : E.w.heap.size ≤ E'.w.heap.size
 heapRo : ∀ b, E.ro b → E'.w.heap[b]? = E.w.heap[b]?
 heapKeep : ∀ b, keep b → E'.w.heap[b]? = E.w.heap[b]?
def ResRep (E : Env) (us : List AV) (v : Value) : Prop := ∃ vs : List Value, VRepL E us vs ∧ v = (if h : vs.toArray.size = 1 then vs.toArray[0] else .tuple vs.toArray)
theorem ResRep.one {E : Env} {us : List AV} {v : Value} (h : ResRep E us v) : SRep E (oneOf us) v := by
 obtain ⟨vs, hr, e⟩ := h
 subst e
 match us, hr with
 | [], hr => rw [show vs = [] from hr]; exact ⟨[], rfl, rfl⟩
 | [a], hr =>
  obtain ⟨x, r, rfl, r1, r2⟩ := hr
  rw [show r = [] from r2]
  exact r1.toS
 | a :: b :: l, hr =>
  obtain ⟨x, r, rfl, r1, y, r', rfl, r2, r3⟩ := hr
  rw [dif_neg (by simp)]
  exact ⟨_, rfl, x, _, rfl, r1, y, _, rfl, r2, r3⟩
def addW (g : Option FuncId) (vals : List Value) : List Value :=
 match g with
 | none => vals
 | some g => vals ++ [.func (.func g) #[] #[]]
structure Contract (P : Program) (f : FuncId) (ins outs : List (Bool × Ty)) (fn : denL ins → Option (denL outs)) (g : Option FuncId := none) : Prop where
 has : ∃ F, P.funcs[f]? = some F ∧ (F.name == "runtime.NumGoroutine") = false ∧ F.body.isNone = false
 ok : ∀ (x : denL ins) (y : denL outs), fn x = some y → ∀ (keep : Nat → Prop) (E : Env) (vs : List AV) (vals : List Value) (objs objs' : Objs), Mems E keep objs → SRepL E vs vals → packArgs ins vs objs = some (x, objs') →
  Calls P f (addW g vals).toArray E.w fun e w' => ∃ us v ob ob' E', e = .returned v ∧ E'.w = w' ∧ ResRep E' us v ∧ Mems E' (fun b => keep b ∨ Live E objs' b) ob ∧ packArgs outs us ob = some (y, ob') ∧
   Frame1 (fun b => keep b ∨ Live E objs' b) E E'
section
variable {P : Program} {T : Tab} (hT : TabOK P T) {keep : Nat → Prop}
theorem SRepL.later {E E' : Env} (hL : Later keep E E') : ∀ {l : List AV} {vs : List Value}, SRepL E l vs → SRepL E' l vs
 | [], _, r => r
 | a :: l, vs, r => by
  obtain ⟨v, s, e, r1, r2⟩ := r
  exact ⟨v, s, e, SRep.later hL r1, SRepL.later hL r2⟩
theorem SRepL.addW {E : Env} {g : Option FuncId} {args : List AV} {vals : List Value} (h : SRepL E args vals) : SRepL E (addG g args) (addW g vals) := by
 cases g with
 | none => exact h
 | some g => exact SRepL.app h ⟨_, [], rfl, ⟨#[], #[], rfl, rfl, rfl⟩, rfl⟩
theorem popF_inv {E : Env} {g : FuncId} : ∀ {args ps : List AV} {vals : List Value}, popF g args = some ps → SRepL E args vals → ∃ vs, vals = vs ++ [.func (.func g) #[] #[]] ∧ SRepL E ps vs ∧ args = appA ps [.func g [] []]
 | [], _, _, h, _ => by cases h
 | [v], ps, vals, h, hr => by
  obtain ⟨x, r, rfl, r1, r2⟩ := hr
  have r2 : r = [] := r2
  subst r2
  cases v with
  | func f a b =>
   match a, b, h, r1 with
   | [], [], h, r1 =>
    have h : (bif Nat.beq f g then some [] else none) = some ps := h
    rcases bif_some h with ⟨hb, h⟩ | ⟨_, h⟩
    ·cases h
     have := Nat.eq_of_beq_eq_true hb
     subst this
     obtain ⟨A, B, e, hA, hB⟩ := (show CRep E (.func f [] []) [x] from r1)
     have hA : A.toList = [] := hA
     have hB : B.toList = [] := hB
     have e : x = .func (.func f) A B := by simpa using e
     refine ⟨[], ?_, rfl, rfl⟩
     rw [e, show A = #[] by rw [← Array.toArray_toList (xs := A), hA], show B = #[] by rw [← Array.toArray_toList (xs := B), hB]]; rfl
    ·cases h
   | _ :: _, _, h, _ => cases h
   | [], _ :: _, h, _ => cases h
  | _ => cases h
 | v :: w :: l, ps, vals, h, hr => by
  obtain ⟨x, r, rfl, r1, r2⟩ := hr
  obtain ⟨ps', h', rfl⟩ := oM_some (show oM (popF g (w :: l)) (v :: ·) = some ps from h)
  obtain ⟨vs, rfl, h2, h3⟩ := popF_inv h' r2
  exact ⟨x :: vs, rfl, ⟨x, vs, rfl, r1, h2⟩, by rw [h3]; rfl⟩
theorem popG_inv {E : Env} {g : Option FuncId} {args ps : List AV} {vals : List Value} (h : popG g args = some ps) (hr : SRepL E args vals) : ∃ vs, vals = addW g vs ∧ SRepL E ps vs ∧ args = addG g ps := by
 cases g with
 | none => cases h; exact ⟨vals, rfl, hr, rfl⟩
 | some g => exact popF_inv h hr
theorem VRepL.toS {E : Env} : ∀ {l : List AV} {vs : List Value}, VRepL E l vs → SRepL E l vs
 | [], _, r => r
 | a :: l, vs, r => by
  obtain ⟨v, s, e, r1, r2⟩ := r
  exact ⟨v, s, e, r1.toS, VRepL.toS r2⟩
theorem relayAll {n : Nat} : ∀ (l : List (Bool × Ty)) {A B : Env} {oa ob oa' : Objs} {vs : List AV} {vals : List Value} {x : denL l}, Two n keep A B oa ob → SRepL A vs vals → packArgs l vs oa = some (x, oa') →
  ∃ A' B', Given keep A A' ∧ Later keep B B' ∧ Two n keep A' B' oa' (layAll l x ⟨ob, B.N⟩).2.objs ∧ B'.N = (layAll l x ⟨ob, B.N⟩).2.next ∧ VRepL B' (layAll l x ⟨ob, B.N⟩).1 vals
 | [], A, B, oa, ob, oa', vs, vals, x, h, hr, hp => by
  cases vs with
  | nil => cases hp; exact ⟨A, B, Given.refl _ _, Later.refl _ _, h, rfl, hr⟩
  | cons => cases hp
 | [t], A, B, oa, ob, oa', vs, vals, x, h, hr, hp => by
  match vs, hr, hp with
  | [v], hr, hp =>
   obtain ⟨xv, r, rfl, r1, r2⟩ := hr
   obtain ⟨A1, B1, g, L, T1, N1, hs⟩ := relayV h r1 hp
   exact ⟨A1, B1, g, L, T1, N1, xv, r, rfl, hs, r2⟩
 | t :: t' :: l, A, B, oa, ob, oa', vs, vals, x, h, hr, hp => by
  match vs, hr, hp with
  | v :: vs, hr, hp =>
   obtain ⟨xv, r, rfl, r1, r2⟩ := hr
   simp only [packArgs] at hp
   split at hp
   ·rename_i y oa1 h1
    split at hp
    ·rename_i ys oa2 h2
     cases hp
     obtain ⟨A1, B1, g1, L1, T1, N1, hs1⟩ := relayV h r1 h1
     obtain ⟨A2, B2, g2, L2, T2, N2, hs2⟩ := relayAll (t' :: l) T1 (SRepL.later g1.later r2) h2
     rw [N1] at T2 N2 hs2
     exact ⟨A2, B2, g1.trans g2, L1.trans L2, T2, N2, xv, r, rfl, VRep.later L2 hs1, hs2⟩
    ·cases hp
   ·cases hp
def resF (tmps : Array Value) : ResultVar → Sem Value
 | .tmp t => pure (tmps.getD t undef)
 | .cell p t => do loadVar t (← asAddr (tmps.getD p undef))
include hT
theorem results_sound {keep : Nat → Prop} {z : Nat} {S : St} {a : Act} {E : Env} (hR : Rel keep z S a E) (fn : Func) {vs : List AV} (h : resultsOf S fn.results.toList T = some vs) :
  ∃ v, (results fn a.tmps).run P E.w = .ok v E.w ∧ ResRep E vs v := by
 have key : ∀ (l : List ResultVar) (vs : List AV), resultsOf S l T = some vs → ∃ us : List Value, (l.mapM (resF a.tmps)).run P E.w = .ok us E.w ∧ VRepL E vs us := by
  intro l
  induction l with
  | nil => intro vs h; cases h; exact ⟨[], by simp, rfl⟩
  | cons x l ih =>
   intro vs h
   cases x with
   | tmp t =>
    simp only [resultsOf] at h
    have hv := ev_rep hR.slots (.tmp t)
    have hev : ev S (.tmp t) = getA S.tmps t := rfl
    rw [hev] at hv
    split at h
    ·cases h
    ·rename_i v hnt
     obtain ⟨vs', h1, rfl⟩ := oM_some h
     obtain ⟨us, h2, h3⟩ := ih _ h1
     have ht : (getA S.tmps t).isTup = false := by
      cases hg : getA S.tmps t <;> first
       | rfl
       | exact absurd hg (hnt _)
     refine ⟨a.tmps.getD t undef :: us, ?_, _, us, rfl, (SRep.iff_V ht).1 hv, h3⟩
     rw [List.mapM_cons, Sem.run_bind]
     simp only [resF, Sem.run_pure, Result.andThen_ok, Sem.run_bind]
     rw [h2]; rfl
   | cell p t =>
    simp only [resultsOf] at h
    split at h
    ·rename_i v hl
     obtain ⟨vs', h1, rfl⟩ := oM_some h
     obtain ⟨us, h2, h3⟩ := ih _ h1
     have hx := ev_rep hR.slots (.tmp p)
     have hev : ev S (.tmp p) = getA S.tmps p := rfl
     rw [hev] at hx
     obtain ⟨y, h4, h5⟩ := loadV_sound hT hR.mems (show (loadV T S t (getA S.tmps p)).gives v by rw [hl]; rfl) hx
     have h6 : (do loadVar t (← asAddr (a.tmps.getD p undef)) : Sem Value).run P E.w = .ok y E.w := by
      have e : a.eval (.tmp p) = a.tmps.getD p undef := rfl
      rw [e] at h4
      generalize a.tmps.getD p undef = q at h4 ⊢
      cases q <;> first
       | (simp [Instr.loadAt, Instr.sureAddr] at h4; done)
       | skip
      rename_i ad
      cases ad with
      | none => simp [Instr.loadAt, Instr.sureAddr] at h4
      | some ad => simpa [Instr.loadAt, Instr.sureAddr, asAddr] using h4
     refine ⟨y :: us, ?_, _, us, rfl, h5, h3⟩
     rw [List.mapM_cons, Sem.run_bind]
     rw [show resF a.tmps (.cell p t) = (do loadVar t (← asAddr (a.tmps.getD p undef))) from rfl, h6]
     simp only [Result.andThen_ok, Sem.run_bind]
     rw [h2]; rfl
    ·cases h
 obtain ⟨us, h1, h2⟩ := key _ _ h
 refine ⟨_, ?_, us, h2, rfl⟩
 show (fn.results.mapM (resF a.tmps) >>= fun vs => (pure (if h : vs.size = 1 then vs[0] else .tuple vs) : Sem Value)).run P E.w = _
 rw [Sem.run_bind, Array.mapM_eq_mapM_toList, Sem.run_map]
 rw [h1]
 rfl
omit hT
theorem SRepL.length {E : Env} : ∀ {l : List AV} {vs : List Value}, SRepL E l vs → vs.length = lenA l
 | [], _, r => by rw [show _ = [] from r]; rfl
 | a :: l, vs, r => by
  obtain ⟨v, s, rfl, _, r2⟩ := r
  simp only [List.length_cons, lenA, SRepL.length r2]
theorem entry_rel {E : Env} {args : List AV} {vals : List Value} {objs : Objs} {next : Nat} (hm : Mems E keep objs) (hN : E.N = next) (hr : SRepL E args vals) (n : Nat) :
  Rel keep (vals.toArray ++ Array.replicate (n - vals.toArray.size) undef).size ⟨appA args (repA (.tup []) (n - lenA args)), objs, next⟩ { tmps := vals.toArray ++ Array.replicate (n - vals.toArray.size) undef, defers := [] } E := by
 have h := slots_of (SRepL.app hr (repA_rep (E := E) (n - lenA args)))
 have e : (vals ++ List.replicate (n - lenA args) undef).toArray = vals.toArray ++ Array.replicate (n - vals.toArray.size) undef := by
  rw [← SRepL.length hr]
  apply Array.toList_inj.1
  simp
 rw [e] at h
 exact ⟨rfl, h, hm, hN, Marks.nil _ _⟩
theorem leaves_marks {P : Program} {fn : Func} {keep : Nat → Prop} {tmps : Array Value} {R : Ending → World → Prop} : ∀ (Ds : List Nat) (E : Env), Ds.Nodup → (∀ D ∈ Ds, ¬ keep D ∧ E.ro D ∧ E.w.heap[D]? = some (.deferred (some []))) →
  (∀ E', Shut E E' → (∀ b, b ∉ Ds → E'.w.heap[b]? = E.w.heap[b]?) → ∃ v, (results fn tmps).run P E'.w = .ok v E'.w ∧ R (.returned v) E'.w) →
  LeavesInM (fw none) 0 P fn tmps R (Ds.map fun D => { target := .collected D, args := #[] }) .returning E.w
 | [], E, _, _, h => h E (Shut.refl E) (fun _ _ => rfl)
 | D :: Ds, E, hn, hD, h => by
  obtain ⟨h1, h2, h3⟩ := hD D List.mem_cons_self
  obtain ⟨hn1, hn2⟩ := List.nodup_cons.1 hn
  have hs : Shut E { E with w := E.w.putObj D (.deferred none) } := Shut.putObj _ h3
  refine ⟨by simp, .inl ⟨D, _, rfl, run_takeDeferred h3, ?_⟩⟩
  refine leaves_marks (keep := keep) Ds { E with w := E.w.putObj D (.deferred none) } hn2 (fun D' hD' => ?_) fun E' hs' hother => ?_
  ·obtain ⟨g1, g2, g3⟩ := hD D' (List.mem_cons_of_mem _ hD')
   have hne : D' ≠ D := fun e => hn1 (e ▸ hD')
   exact ⟨g1, g2, (World.putObj_heap_other hne).trans g3⟩
  ·refine h E' (hs.trans hs') fun b hb => ?_
   exact (hother b fun h => hb (List.mem_cons_of_mem _ h)).trans (World.putObj_heap_other fun e => hb (e ▸ List.mem_cons_self))
include hT
theorem body_sound (hP : P.follows .mixedOrders = true) {H : Handler} (hH : HOK P H) {f : FuncId} {fn : Func} {body : Code} (hf : P.funcs[f]? = some fn) (hb : fn.body = some body) {an : Ann} {args : List AV} {vals : List Value} {objs : Objs} {next : Nat} {R : Type} {K : List AV → St → Option R} {r : R} {E : Env}
  (h : codeK T H body an none ⟨appA args (repA (.tup []) (fn.ntmps - lenA args)), objs, next⟩ (fun e S' => match e with
   | .exit _ => none
   | _ => match resultsOf S' fn.results.toList T with
    | some vs => K vs S'
    | none => none) = some r) (hm : Mems E keep objs) (hN : E.N = next) (hr : SRepL E args vals) :
  Calls P f vals.toArray E.w fun e w' => ∃ us v S' E', e = .returned v ∧ E'.w = w' ∧ Later keep E E' ∧ Mems E' keep S'.objs ∧ E'.N = S'.next ∧ ResRep E' us v ∧ K us S' = some r := by
 have hm0 : Mems E (fun b => keep b ∨ E.ro b) objs := ⟨hm.rep, fun id oc b hl hb => ⟨(hm.sep id oc b hl hb).1, fun hk => hk.elim (hm.sep id oc b hl hb).2 (hm.sep id oc b hl hb).1⟩, hm.inj, hm.rob, fun b hb => hb.elim (hm.kb b) (hm.rob b), hm.gl⟩
 refine calls_fw.1 (callsIn_of_wp_marks (F := fw none) (n := 0) hf hb trivial (code_sound hT hH hP body (.inl rfl) an h (entry_rel hm0 hN hr fn.ntmps) fun e S' a' E' hR hL hk => ?_))
 have fin : (match resultsOf S' fn.results.toList T with
   | some vs => K vs S'
   | none => none) = some r → LeavesInM (fw none) 0 P fn a'.tmps (fun e w' => ∃ us v S' E', e = .returned v ∧ E'.w = w' ∧ Later keep E E' ∧ Mems E' keep S'.objs ∧ E'.N = S'.next ∧ ResRep E' us v ∧ K us S' = some r) a'.defers .returning E'.w := by
  intro hk
  split at hk
  ·rename_i vs hvs
   obtain ⟨Ds, hds, hnd, hD⟩ := hR.defers
   rw [hds]
   refine leaves_marks (keep := fun b => keep b ∨ E.ro b) Ds E' hnd hD fun E2 hs hoth => ?_
   have hR2 : Rel (fun b => keep b ∨ E.ro b) _ S' { a' with defers := [] } E2 :=
    ⟨hR.size, ⟨hR.slots.1, fun i v hv => SRep.shut hs (hR.slots.2 i v hv)⟩, hR.mems.shut hs, hs.N.trans hR.next, Marks.nil _ _⟩
   obtain ⟨v, h1, h2⟩ := results_sound hT hR2 fn hvs
   have hnk : ∀ b, keep b ∨ E.ro b → b ∉ Ds := fun b hb hm => (hD b hm).1 hb
   refine ⟨v, h1, vs, v, S', E2, rfl, rfl, ⟨fun b hb => by rw [hs.ro]; exact hL.ro b hb, fun b hb => ?_, fun id hi => by rw [hs.M]; exact hL.M id hi, by rw [hs.N]; exact hL.N, by rw [hs.size]; exact hL.size,
    fun b hb => (hoth b (hnk b (.inr hb))).trans (hL.heapRo b hb), fun b hb => (hoth b (hnk b (.inl hb))).trans (hL.heapKeep b (.inl hb)), hL.out.trans hs.out⟩, ?_, hR2.next, h2, hk⟩
   ·rw [hs.ro] at hb
    exact (hL.roN b hb).imp id fun h hk => h (.inl hk)
   ·exact ⟨hR2.mems.rep, fun id oc b hl hb => ⟨(hR2.mems.sep id oc b hl hb).1, fun hk => (hR2.mems.sep id oc b hl hb).2 (.inl hk)⟩, hR2.mems.inj, hR2.mems.rob, fun b hb => hR2.mems.kb b (.inl hb), hR2.mems.gl⟩
  ·cases hk
 cases e with
 | normal => exact fin hk
 | ret => exact fin hk
 | exit id => cases hk
set_option linter.unusedSectionVars false in
/-- what is laid of pure values -/
theorem layAll_pure : ∀ (l : List (Bool × Ty)) (x : denL l) (m : Mem), allPure l = true → (layAll l x m).2 = m
  | [], _, _, _ => rfl
  | [t], x, m, h => by
    simp only [allPure, Bool.and_eq_true] at h
    simp only [layAll, layOne, laid_pure _ _ _ h.1]
  | t :: t' :: l, x, m, h => by
    simp only [allPure, Bool.and_eq_true] at h
    have h2 := layAll_pure (t' :: l) x.2 m (by simp only [allPure, Bool.and_eq_true]; exact h.2)
    simp only [layAll, layOne, laid_pure _ _ _ h.1]
    exact h2
end
end Go.Rx
namespace Go.Rx
variable [Inhabited GW]
section
variable {P : Program} {T : Tab} (hT : TabOK P T) {keep : Nat → Prop}
theorem toTy_sub : ∀ (t : Ty) {cs rest : List AV} {objs objs' : Objs} {x : den t}, toTy t cs objs = some (x, rest, objs') → ∀ j oc, look j objs' = some oc → look j objs = some oc
 | .int k, cs, rest, objs, objs', x, h => by
  simp only [toTy] at h
  split at h
  ·split at h
   ·cases h; exact fun _ _ h => h
   ·cases h
  ·cases h
 | .bool, cs, rest, objs, objs', x, h => by
  simp only [toTy] at h
  split at h
  ·cases h; exact fun _ _ h => h
  ·cases h
 | .str, cs, rest, objs, objs', x, h => by
  simp only [toTy] at h
  split at h
  ·cases h; exact fun _ _ h => h
  ·cases h
 | .sl t, cs, rest, objs, objs', x, h => by
  simp only [toTy] at h
  split at h
  ·obtain ⟨_, _, h⟩ := oM_some h; cases h; exact fun _ _ h => h
  ·cases h; exact fun _ _ h => h
  ·obtain ⟨⟨_, _⟩, hl, h⟩ := oM_some h; cases h; exact takeOwn_sub hl
  ·cases h
 | .own t, cs, rest, objs, objs', x, h => by
  simp only [toTy] at h
  split at h
  ·cases h; exact fun _ _ h => h
  ·obtain ⟨⟨_, _⟩, hl, h⟩ := oM_some h; cases h; exact takeOwn_sub hl
  ·cases h
 | .unit, cs, rest, objs, objs', x, h => by
  simp only [toTy] at h; cases h; exact fun _ _ h => h
 | .pair a b, cs, rest, objs, objs', x, h => by
  simp only [toTy] at h
  split at h
  ·rename_i h1
   split at h
   ·rename_i h2
    cases h
    exact fun j oc hj => toTy_sub a h1 j oc (toTy_sub b h2 j oc hj)
   ·cases h
  ·cases h
 | .arr n t, cs, rest, objs, objs', x, h => by
  simp only [toTy] at h
  split at h
  ·split at h
   ·obtain ⟨_, _, h⟩ := oM_some h; cases h; exact fun _ _ h => h
   ·cases h
  ·have key : ∀ (n : Nat) {cs rest : List AV} {objs objs' : Objs} {xs : List (den t)}, manyTy (toTy t) n cs objs = some (xs, rest, objs') → ∀ j oc, look j objs' = some oc → look j objs = some oc := by
    intro n
    induction n with
    | zero => intro cs rest objs objs' xs h; simp only [manyTy] at h; cases h; exact fun _ _ h => h
    | succ n ih =>
     intro cs rest objs objs' xs h
     simp only [manyTy] at h
     split at h
     ·rename_i h1
      split at h
      ·rename_i h2
       cases h
       exact fun j oc hj => toTy_sub t h1 j oc (ih h2 j oc hj)
      ·cases h
     ·cases h
   exact key n h
theorem takeV_sub {t : Bool × Ty} {v : AV} {objs objs' : Objs} {x : den t.2} (h : takeV t v objs = some (x, objs')) : ∀ j oc, look j objs' = some oc → look j objs = some oc := by
 rcases bif_some h with ⟨_, h⟩ | ⟨_, h⟩
 ·unfold asTy at h
  split at h
  ·split at h
   ·rename_i h1
    cases h
    exact toTy_sub _ h1
   ·cases h
  ·cases h
 ·cases h
theorem packArgs_sub : ∀ (l : List (Bool × Ty)) {vs : List AV} {objs objs' : Objs} {x : denL l}, packArgs l vs objs = some (x, objs') → ∀ j oc, look j objs' = some oc → look j objs = some oc
 | [], vs, objs, objs', x, h => by
  cases vs with
  | nil => cases h; exact fun _ _ h => h
  | cons => cases h
 | [t], vs, objs, objs', x, h => by
  match vs, h with
  | [v], h => exact takeV_sub h
 | t :: t' :: l, vs, objs, objs', x, h => by
  match vs, h with
  | v :: vs, h =>
   simp only [packArgs] at h
   split at h
   ·rename_i h1
    split at h
    ·rename_i h2
     cases h
     exact fun j oc hj => takeV_sub h1 j oc (packArgs_sub (t' :: l) h2 j oc hj)
    ·cases h
   ·cases h
theorem mems_sub {E : Env} {objs objs' : Objs} (h : Mems E keep objs) (hs : ∀ j oc, look j objs' = some oc → look j objs = some oc) : Mems E keep objs' :=
 ⟨fun id oc hl => h.rep id oc (hs _ _ hl), fun id oc b hl => h.sep id oc b (hs _ _ hl), fun id id' oc oc' b hl hl' => h.inj id id' oc oc' b (hs _ _ hl) (hs _ _ hl'), h.rob, h.kb, h.gl⟩
include hT
theorem evalF_contract (hP : P.follows .mixedOrders = true) {Es : List (Nat × Callee)} {depth : Nat} (hH : HOK P (handler T Es depth)) {f : FuncId} {F : Func} {body : Code} (hf : P.funcs[f]? = some F) (hb : F.body = some body) (hname : (F.name == "runtime.NumGoroutine") = false)
  {an : Ann} {ins outs : List (Bool × Ty)} {fn : denL ins → Option (denL outs)} {g0 : Option FuncId} (h : ∀ x, evalF T Es depth F body an ins outs x g0 = fn x) : Contract P f ins outs fn g0 := by
 refine ⟨⟨F, hf, hname, by rw [hb]; rfl⟩, fun x y hxy keep E vs vals objs objs' hm hr hp => ?_⟩
 rw [← h] at hxy
 have T0 : Two 0 keep E { E with N := 0 } objs [] :=
  ⟨rfl, rfl, fun _ _ => rfl, Nat.le_refl _, hm, ⟨fun id oc h => (nomatch h), fun id oc b h => (nomatch h), fun id id' oc oc' b h => (nomatch h), hm.rob, hm.kb, hm.gl.mono fun _ hg => ⟨hm.gl.ro hg, rfl⟩⟩, fun b _ hx => by obtain ⟨id, oc, h, _⟩ := hx; cases h⟩
 obtain ⟨A, B, g, L, T1, N1, hs⟩ := relayAll ins T0 hr hp
 have hlive : ∀ b, Live E objs' b → Live A objs' b := fun b ⟨id, oc, h1, h2⟩ => ⟨id, oc, h1, by rw [g.M]; exact h2⟩
 have hwB : B.w = E.w := T1.w.trans g.w
 have hmB : Mems B (fun b => keep b ∨ Live E objs' b) (layAll ins x ⟨[], 0⟩).2.objs :=
  ⟨T1.mb.rep, fun id oc b h1 h2 => ⟨(T1.mb.sep id oc b h1 h2).1, fun hc => hc.elim (T1.mb.sep id oc b h1 h2).2 fun hc => T1.ap b (hlive b hc) ⟨id, oc, h1, h2⟩⟩, T1.mb.inj, T1.mb.rob,
   fun b hb => hb.elim (T1.mb.kb b) fun hc => by
    obtain ⟨id, oc, h1, h2⟩ := hlive b hc
    have := live_lt (T1.ma.rep _ _ h1).2 h2
    rw [T1.w]; exact this, T1.mb.gl⟩
 unfold evalF at hxy
 rw [← hwB]
 refine (body_sound (K := fun vs S' => match packArgs outs vs S'.objs with
   | some (y, _) => some y
   | none => none) hT hP hH hf hb hxy hmB N1 (SRepL.addW hs.toS)).mono ?_
 rintro e w' ⟨us, v, S', E', rfl, rfl, hL, hM, hN, hres, hk⟩
 split at hk
 ·rename_i y' ob' hpk
  cases hk
  refine ⟨us, v, S'.objs, ob', E', rfl, rfl, hres, hM, hpk, ⟨by rw [← hwB]; exact hL.out, fun b hb => hL.ro b ?_, fun b hb => ?_, ?_, fun b hb => ?_, fun b hb => ?_⟩⟩
  ·rw [T1.ro]; exact g.later.ro b hb
  ·rcases hL.roN b hb with hb | hb
   ·rw [T1.ro] at hb
    rcases g.later.roN b hb with h1 | h1
    ·exact .inl h1
    ·exact .inr fun hc => hc.elim h1 fun hc => by
      obtain ⟨id, oc, h2, h3⟩ := hlive b hc
      exact (T1.ma.sep _ _ _ h2 h3).1 hb
   ·exact .inr hb
  ·rw [← hwB]; exact hL.size
  ·rw [← hwB]; exact hL.heapRo b (by rw [T1.ro]; exact g.later.ro b hb)
  ·rw [← hwB]; exact hL.heapKeep b hb
 ·cases hk
omit hT
theorem TRep.flat {A B : Env} : ∀ {t : Ty} {x : den t} {vs : List Value}, t.flat = true → TRep A t x vs → TRep B t x vs
 | .int _, _, _, _, r => r
 | .bool, _, _, _, r => r
 | .str, _, _, _, r => r
 | .sl _, _, _, h, _ => by cases h
 | .own _, _, _, h, _ => by cases h
 | .unit, _, _, _, r => r
 | .pair a b, x, vs, h, r => by
  simp only [Ty.flat, Bool.and_eq_true] at h
  obtain ⟨u, v, e, r1, r2⟩ := r
  exact ⟨u, v, e, TRep.flat h.1 r1, TRep.flat h.2 r2⟩
 | .arr n t, l, vs, h, r => by
  obtain ⟨e1, e2, r⟩ := r
  refine ⟨e1, e2, fun i hi => ?_⟩
  obtain ⟨cs, r1, r2⟩ := r i hi
  exact ⟨cs, TRep.flat (by exact h) r1, r2⟩
theorem flat_pure : ∀ {t : Ty}, t.flat = true → t.pure = true
 | .int _, _ => rfl
 | .bool, _ => rfl
 | .str, _ => rfl
 | .sl _, h => by cases h
 | .own _, h => by cases h
 | .unit, _ => rfl
 | .pair a b, h => by
  simp only [Ty.flat, Bool.and_eq_true] at h
  simp only [Ty.pure, flat_pure h.1, flat_pure h.2, Bool.and_self]
 | .arr n t, h => flat_pure (t := t) h
theorem TRep.mono {A B : Env} (hw : B.w = A.w) (hr : ∀ b, A.ro b → B.ro b) : ∀ {t : Ty} {x : den t} {vs : List Value}, TRep A t x vs → TRep B t x vs
 | .int _, _, _, r => r
 | .bool, _, _, r => r
 | .str, _, _, r => r
 | .sl t, l, vs, r => by
  obtain ⟨a, cap, e, hc, r⟩ := r
  refine ⟨a, cap, e, hc, r.imp id ?_⟩
  rintro ⟨b, o, e, hb, r⟩
  refine ⟨b, o, e, hr b hb, fun i hi => ?_⟩
  obtain ⟨cs, r1, r2⟩ := r i hi
  exact ⟨cs, TRep.mono hw hr r1, fun j v hj => by rw [hw]; exact r2 j v hj⟩
 | .own _, _, _, r => r
 | .unit, _, _, r => r
 | .pair a b, x, vs, r => by
  obtain ⟨u, v, e, r1, r2⟩ := r
  exact ⟨u, v, e, TRep.mono hw hr r1, TRep.mono hw hr r2⟩
 | .arr n t, l, vs, r => by
  obtain ⟨e1, e2, r⟩ := r
  refine ⟨e1, e2, fun i hi => ?_⟩
  obtain ⟨cs, r1, r2⟩ := r i hi
  exact ⟨cs, TRep.mono hw hr r1, r2⟩
theorem takeV_pure {t : Bool × Ty} {v : AV} {xv : Value} {x : den t.2} {E : Env} {objs objs1 : Objs} (hp : t.2.pure = true) (hm : Mems E keep objs) (hrep : SRep E v xv) (hx : takeV t v objs = some (x, objs1)) :
  ∃ E', Given keep E E' ∧ Mems E' keep objs1 ∧ TRep E' t.2 x xv.cells.toList ∧ (∀ b, E'.ro b → E.ro b ∨ Live E objs b) ∧ ∀ {B : Env} {m : Mem}, TRep B t.2 x xv.cells.toList → VRep B (layOne t x m).1 xv := by
 obtain ⟨agg, t⟩ := t
 rcases bif_some hx with ⟨hc, hx⟩ | ⟨_, hx⟩
 ·simp only [Bool.and_eq_true] at hc
  obtain ⟨⟨_, hfit⟩, hag⟩ := hc
  unfold asTy at hx
  split at hx
  ·rename_i cs hcs
   split at hx
   ·rename_i x' oa2 hto
    cases hx
    obtain ⟨E', u, w, g, m, e, t1, c, l1, _⟩ := toTy_sound t hp (cellsOf_rep hrep hcs) hm hto
    rw [show w = [] from c, List.append_nil] at e
    refine ⟨E', g, m, e ▸ t1, l1, fun {B m} tB => ?_⟩
    have c1 := enc_rep tB
    have hl : (laid t x m).1 = enc t x := by rw [laid_pure t x m hp]
    show VRep B (if agg then .agg (laid t x m).1 else headA (laid t x m).1) xv
    cases agg with
    | true =>
     cases v <;> first
      | (simp [fitsA] at hfit; done)
      | skip
     obtain ⟨vs, rfl, _⟩ := hrep
     exact ⟨vs, rfl, by rw [hl]; simpa [Value.cells] using c1⟩
    | false =>
     have hsc : t.scalar = true := by simpa using hag
     obtain ⟨c, ec, hcell⟩ := laid_scalar (x := x) (m := m) hsc
     have hone : xv.cells = #[xv] := by
      cases v <;> first
       | (simp [fitsA] at hfit; done)
       | (simp [cellsOf] at hcs; done)
       | exact one_cells (CRep.one (E := E) (show CRep E _ [xv] from hrep) xv (by simp))
     rw [← hl, ec, hone] at c1
     obtain ⟨u, r, e, c3, c4⟩ := c1
     rw [show r = [] from c4, List.append_nil] at e
     have e : u = [xv] := e.symm
     rw [e] at c3
     rw [ec]
     show VRep B c xv
     cases c <;> first
      | (simp [isCell] at hcell; done)
      | exact c3
   ·cases hx
  ·cases hx
 ·cases hx
theorem toTy_enc : ∀ (t : Ty) (x : den t) (rest : List AV) (objs : Objs), t.pure = true → toTy t (appA (enc t x) rest) objs = some (x, rest, objs)
 | .int k, x, rest, objs, _ => by simp [enc, appA, toTy]
 | .bool, x, rest, objs, _ => by simp [enc, appA, toTy]
 | .str, x, rest, objs, _ => by simp [enc, appA, toTy]
 | .sl t, x, rest, objs, _ => by simp [enc, appA, toTy, castL, oM]
 | .own t, _, _, _, h => by cases h
 | .unit, x, rest, objs, _ => rfl
 | .pair a b, x, rest, objs, h => by
  simp only [Ty.pure, Bool.and_eq_true] at h
  have happ : ∀ (l m k : List AV), appA (appA l m) k = appA l (appA m k) := by
   intro l m k
   induction l with
   | nil => rfl
   | cons a l ih => simp only [appA, ih]
  simp only [enc, toTy, happ, toTy_enc a x.1 _ objs h.1, toTy_enc b x.2 _ objs h.2]
 | .arr n t, x, rest, objs, _ => by simp [enc, appA, toTy, castL, oM]
theorem appA_nil : ∀ (l : List AV), appA l [] = l
 | [] => rfl
 | a :: l => by simp only [appA, appA_nil l]
theorem takeV_lay {t : Bool × Ty} {v : AV} {x : den t.2} {objs objs1 ob : Objs} {m : Mem} (hp : t.2.pure = true) (hx : takeV t v objs = some (x, objs1)) : takeV t (layOne t x m).1 ob = some (x, ob) := by
 obtain ⟨agg, t⟩ := t
 rcases bif_some hx with ⟨hc, _⟩ | ⟨_, hx⟩
 ·simp only [Bool.and_eq_true] at hc
  obtain ⟨⟨hokp, _⟩, hag⟩ := hc
  have hl : (laid t x m).1 = enc t x := by rw [laid_pure t x m hp]
  have henc := toTy_enc t x [] ob hp
  rw [appA_nil] at henc
  show (bif t.okp && fitsA agg (if agg then .agg (laid t x m).1 else headA (laid t x m).1) && (agg || t.scalar) then asTy t (if agg then .agg (laid t x m).1 else headA (laid t x m).1) ob else none) = some (x, ob)
  cases agg with
  | true => simp [hokp, fitsA, asTy, cellsOf, hl, henc]
  | false =>
   have hsc : t.scalar = true := by simpa using hag
   obtain ⟨c, ec, hcell⟩ := laid_scalar (x := x) (m := m) hsc
   rw [← hl, ec] at henc
   have hco : cellsOf c = some [c] := by cases c <;> first | (simp [isCell] at hcell; done) | rfl
   have hfi : fitsA false c = true := by cases c <;> first | (simp [isCell] at hcell; done) | rfl
   simp [hokp, hsc, ec, headA, hfi, asTy, hco, henc]
 ·cases hx
theorem lendV_takeV {t : Bool × Ty} {v : AV} {objs : Objs} {x : den t.2} (h : lendV t v objs = some x) :
  (∃ ty id off n ty' lo len, t = (false, .sl ty) ∧ v = .bsl id off n ty' lo len) ∨ (∃ ty id ty' l g cs far, t = (false, .sl ty) ∧ v = .oref id none ∧ look id objs = some (.hol ty' l g cs far)) ∨ ∃ o, takeV t v objs = some (x, o) := by
 unfold lendV at h
 split at h
 ·exact .inl ⟨_, _, _, _, _, _, _, rfl, rfl⟩
 ·split at h
  ·rename_i hl
   exact .inr (.inl ⟨_, _, _, _, _, _, _, rfl, rfl, hl⟩)
  ·right; right
   revert h
   cases hk : takeV (false, .sl _) (.oref _ none) objs with
   | none => intro h; cases h
   | some q => intro h; cases h; exact ⟨q.2, rfl⟩
 ·right; right
  revert h
  cases hk : takeV t v objs with
  | none => intro h; cases h
  | some q => intro h; cases h; exact ⟨q.2, rfl⟩
theorem lendV_sound {t : Bool × Ty} {v : AV} {xv : Value} {x : den t.2} {E : Env} {objs : Objs} {m : Mem} (hp : t.2.pure = true) (hm : Mems E keep objs) (hrep : SRep E v xv) (h : lendV t v objs = some x) :
  SRep { E with ro := fun b => E.ro b ∨ Live E objs b } (layOne t x m).1 xv ∧ takeV t (layOne t x m).1 [] = some (x, []) := by
 rcases lendV_takeV h with ⟨ty, id, off, n, ty', lo, len, rfl, rfl⟩ | ⟨ty, id, ty', l, g, cs, far, rfl, rfl, hl⟩ | ⟨o1, h1⟩
 rotate_left
 ·simp only [lendV, hl] at h
  split at h
  ·rename_i l1 y o hcl hto
   obtain ⟨rfl, e1⟩ := castL_eq hcl
   have e1 : l = l1 := e1
   subst e1
   rcases bif_some h with ⟨hp', h⟩ | ⟨_, h⟩
   ·have hx := Option.some.inj h
    subst hx
    have ho := (hm.rep _ _ hl).2
    have hLs : Later keep E { E with ro := fun b => E.ro b ∨ Live E objs b } :=
     ⟨fun b hb => .inl hb, fun b hb => hb.imp (fun h => h) fun ⟨j, oc, h1, h2⟩ => (hm.sep _ _ _ h1 h2).2, fun _ _ => rfl, Nat.le_refl _, Nat.le_refl _, fun _ _ => rfl, fun _ _ => rfl, Quiet.refl _⟩
    obtain ⟨us, hus, hk⟩ := close_rep (keep := keep) y ho
    obtain ⟨E1, u, v1, g1, _, e2, t1, c1, l1, _⟩ := toTy_sound ty' hp' hus hm hto
    rw [show v1 = [] from c1, List.append_nil] at e2
    subst e2
    have hr := hk { E with ro := fun b => E.ro b ∨ Live E objs b } hLs rfl (TRep.mono (A := E1) (B := { E with ro := fun b => E.ro b ∨ Live E objs b }) (by rw [g1.w]) l1 t1)
    have key := own_gone (E := { E with ro := fun b => E.ro b ∨ Live E objs b }) (id := id) (rg := none) (v := xv) rfl hr (show CRep E (.oref id none) [xv] from hrep) _ (Later.refl keep _) (fun b hb => .inr ⟨id, _, hl, hb⟩) rfl
    have hokp : (Ty.sl ty').okp = true := hp
    exact ⟨key, by simp [layOne, laid, takeV, headA, toTy, cellsOf, asTy, castL, Ty.scalar, oM, hokp, fitsA]⟩
   ·cases h
  ·cases h
 rotate_left
 ·simp only [lendV] at h
  have hb2 := bif_some h
  have hw : width ty' = width ty := by
   rcases hb2 with ⟨hw, _⟩ | ⟨_, h⟩
   ·exact Nat.eq_of_beq_eq_true hw
   ·cases h
  rw [hw, Nat.beq_refl, cond_true] at h
  split at h
  ·rename_i cs hl
   split at h
   ·rename_i l ha
    have hx := Option.some.inj h
    subst hx
    obtain ⟨hi, hlo, b, o, hb, hv, ho⟩ := hrep
    obtain ⟨h1, h2⟩ := hm.rep _ _ hl
    obtain ⟨b', vs, e, hb', hh, hc⟩ := h2
    rw [hb] at hb'; cases hb'
    obtain ⟨ha1, ha2⟩ := arrAt_rep hc ha
    have hlen : ((l.drop lo).take len).length = len := by
     have := ha2.1
     rw [List.length_take, List.length_drop]; omega
    have key : TRep { E with ro := fun b => E.ro b ∨ Live E objs b } (.sl ty) ((l.drop lo).take len) [xv] := by
     refine ⟨some ⟨b, o, none⟩, n - lo, ?_, ⟨by rw [hlen]; omega, nofun⟩, ?_⟩
     ·rw [hlen]; exact hv
     ·by_cases h0 : len = 0
      ·left; rw [hlen]; exact h0
      ·right
       refine ⟨b, o, rfl, .inr ⟨id, _, hl, hb⟩, fun i hi' => ?_⟩
       rw [hlen] at hi'
       rcases ho with ho | ho
       ·omega
       have hAt : At E.w b off ((vs.toList.drop off).take (n * width ty)) := fun j v hj => by
        have hj' : j < n * width ty := by
         have := (List.getElem?_eq_some_iff.1 hj).1
         rw [List.length_take] at this; omega
        rw [List.getElem?_take_of_lt hj', List.getElem?_drop] at hj
        simp only [World.cell?, hh]
        simpa using hj
       obtain ⟨cs', r1, r2⟩ := elem_at (k := lo + i) ha2 hAt (by omega)
       refine ⟨cs', ?_, fun j v hj => ?_⟩
       ·have e1 : ((l.drop lo).take len)[i] = l.getD (lo + i) (dflt ty) := by
         have hll := ha2.1
         rw [List.getElem_take, List.getElem_drop, List.getD_eq_getElem?_getD, List.getElem?_eq_getElem (by omega)]; rfl
        rw [e1]
        exact TRep.mono (A := E) (B := { E with ro := fun b => E.ro b ∨ Live E objs b }) rfl (fun b h => Or.inl h) r1
       ·have := r2 j v hj
        rw [ho]
        have e2 : off + lo * width ty' + i * width ty + j = off + (lo + i) * width ty + j := by rw [hw, Nat.add_mul]; omega
        rw [e2]; exact this
    have ho : (Ty.sl ty).okp = true := hp
    exact ⟨key, by simp [layOne, laid, takeV, headA, toTy, cellsOf, asTy, castL, Ty.scalar, oM, ho, fitsA]⟩
   ·cases h
  ·cases h
 ·obtain ⟨E', g, _, t1, l1, hB⟩ := takeV_pure hp hm hrep h1
  exact ⟨(hB (TRep.mono (by rw [g.w]) l1 t1)).toS, takeV_lay hp h1⟩
theorem lend_sound {E : Env} {objs : Objs} (hm : Mems E keep objs) : ∀ (l : List (Bool × Ty)) {vs : List AV} {vals : List Value} {x : denL l} {m : Mem}, allPure l = true → SRepL E vs vals → packLend objs l vs = some x →
  SRepL { E with ro := fun b => E.ro b ∨ Live E objs b } (layAll l x m).1 vals ∧ packArgs l (layAll l x m).1 [] = some (x, [])
 | [], vs, vals, x, m, _, hr, h => by
  cases vs with
  | nil => exact ⟨hr, rfl⟩
  | cons => cases h
 | [t], vs, vals, x, m, hp, hr, h => by
  simp only [allPure, Bool.and_eq_true] at hp
  match vs, hr, h with
  | [v], hr, h =>
   obtain ⟨xv, r, rfl, r1, r2⟩ := hr
   simp only [packLend] at h
   obtain ⟨h1, h2⟩ := lendV_sound (m := m) hp.1 hm r1 h
   exact ⟨⟨xv, r, rfl, h1, r2⟩, h2⟩
 | t :: t' :: l, vs, vals, x, m, hp, hr, h => by
  simp only [allPure, Bool.and_eq_true] at hp
  match vs, hr, h with
  | v :: vs, hr, h =>
   obtain ⟨xv, r, rfl, r1, r2⟩ := hr
   simp only [packLend] at h
   split at h
   ·rename_i y h1
    split at h
    ·rename_i ys h2
     cases h
     obtain ⟨a1, a2⟩ := lendV_sound (m := m) hp.1 hm r1 h1
     obtain ⟨h3, h4⟩ := lend_sound hm (t' :: l) (m := (layOne t y m).2) (by simp only [allPure, Bool.and_eq_true]; exact hp.2) r2 h2
     refine ⟨⟨xv, r, rfl, a1, h3⟩, ?_⟩
     simp only [layAll, packArgs, a2, h4]
    ·cases h
   ·cases h
theorem flat_results : ∀ (l : List (Bool × Ty)) {E B : Env} {objs objs' : Objs} {us : List AV} {vals : List Value} {x : denL l} {m : Mem}, allFlat l = true → Mems E keep objs → SRepL E us vals → packArgs l us objs = some (x, objs') → VRepL B (layAll l x m).1 vals
 | [], E, B, objs, objs', us, vals, x, m, _, hm, hr, h => by
  cases us with
  | nil => exact hr
  | cons => cases h
 | [t], E, B, objs, objs', us, vals, x, m, hf, hm, hr, h => by
  simp only [allFlat, Bool.and_eq_true] at hf
  match us, hr, h with
  | [v], hr, h =>
   obtain ⟨xv, r, rfl, r1, r2⟩ := hr
   obtain ⟨E', g, _, t1, l1, hB⟩ := takeV_pure (flat_pure hf.1) hm r1 h
   exact ⟨xv, r, rfl, hB (TRep.flat hf.1 t1), r2⟩
 | t :: t' :: l, E, B, objs, objs', us, vals, x, m, hf, hm, hr, h => by
  simp only [allFlat, Bool.and_eq_true] at hf
  match us, hr, h with
  | v :: us, hr, h =>
   obtain ⟨xv, r, rfl, r1, r2⟩ := hr
   simp only [packArgs] at h
   split at h
   ·rename_i y o1 h1
    split at h
    ·rename_i ys o2 h2
     cases h
     obtain ⟨E', g, m1, t1, l1, hB⟩ := takeV_pure (flat_pure hf.1) hm r1 h1
     exact ⟨xv, r, rfl, hB (TRep.flat hf.1 t1), flat_results (t' :: l) (by simp only [allFlat, Bool.and_eq_true]; exact hf.2) m1 (SRepL.later g.later r2) h2⟩
    ·cases h
   ·cases h
theorem flat_allPure : ∀ (l : List (Bool × Ty)), allFlat l = true → allPure l = true
 | [], _ => rfl
 | t :: l, h => by
  simp only [allFlat, Bool.and_eq_true] at h
  simp only [allPure, flat_pure h.1, flat_allPure l h.2, Bool.and_self]
theorem look_inO {ids : List Nat} {id : Nat} {oc : OC} : ∀ {l : Objs}, look id (inO ids l) = some oc → look id l = some oc ∧ memN id ids = true
 | (j, o) :: l, h => by
  simp only [inO] at h
  cases hb : memN j ids with
  | true =>
   rw [hb] at h
   simp only [cond_true, look] at h ⊢
   cases hj : Nat.beq j id with
   | true =>
    rw [hj] at h
    have := Nat.eq_of_beq_eq_true hj
    subst this
    exact ⟨h, hb⟩
   | false => rw [hj] at h; exact look_inO h
  | false =>
   rw [hb] at h
   simp only [cond_false] at h
   obtain ⟨h1, h2⟩ := look_inO h
   refine ⟨?_, h2⟩
   simp only [look]
   cases hj : Nat.beq j id with
   | true =>
    have := Nat.eq_of_beq_eq_true hj
    subst this
    rw [hb] at h2; cases h2
   | false => exact h1
theorem look_outO {ids : List Nat} {id : Nat} {oc : OC} : ∀ {l : Objs}, look id (outO ids l) = some oc → look id l = some oc ∧ memN id ids = false
 | (j, o) :: l, h => by
  simp only [outO] at h
  cases hb : memN j ids with
  | false =>
   rw [hb] at h
   simp only [cond_false, look] at h ⊢
   cases hj : Nat.beq j id with
   | true =>
    rw [hj] at h
    have := Nat.eq_of_beq_eq_true hj
    subst this
    exact ⟨h, hb⟩
   | false => rw [hj] at h; exact look_outO h
  | true =>
   rw [hb] at h
   simp only [cond_true] at h
   obtain ⟨h1, h2⟩ := look_outO h
   refine ⟨?_, h2⟩
   simp only [look]
   cases hj : Nat.beq j id with
   | true =>
    have := Nat.eq_of_beq_eq_true hj
    subst this
    rw [hb] at h2; cases h2
   | false => exact h1
theorem look_newO {ids : List Nat} {n id : Nat} {oc : OC} : ∀ {l : Objs}, look id (newO ids n l) = some oc → look id l = some oc ∧ (memN id ids || Nat.ble n id) = true
 | (j, o) :: l, h => by
  simp only [newO] at h
  cases hb : (memN j ids || Nat.ble n j) with
  | true =>
   rw [hb] at h
   simp only [cond_true, look] at h ⊢
   cases hj : Nat.beq j id with
   | true =>
    rw [hj] at h
    have := Nat.eq_of_beq_eq_true hj
    subst this
    exact ⟨h, hb⟩
   | false => rw [hj] at h; exact look_newO h
  | false =>
   rw [hb] at h
   simp only [cond_false] at h
   obtain ⟨h1, h2⟩ := look_newO h
   refine ⟨?_, h2⟩
   simp only [look]
   cases hj : Nat.beq j id with
   | true =>
    have := Nat.eq_of_beq_eq_true hj
    subst this
    rw [hb] at h2; cases h2
   | false => exact h1
theorem look_outO_out {ids : List Nat} {id : Nat} (hi : memN id ids = false) : ∀ {l : Objs}, look id (outO ids l) = look id l
 | [] => rfl
 | (j, o) :: l => by
  simp only [outO]
  cases hb : memN j ids with
  | false =>
   simp only [cond_false, look]
   rw [look_outO_out hi]
  | true =>
   simp only [cond_true, look]
   rw [look_outO_out hi]
   cases hj : Nat.beq j id with
   | true =>
    have := Nat.eq_of_beq_eq_true hj
    subst this
    rw [hb] at hi; cases hi
   | false => rfl
theorem look_mergeO_eq {id : Nat} : ∀ {l m : Objs}, look id m = none → look id (mergeO l m) = look id l
 | [], m, h => h
 | (j, o) :: l, m, h => by
  simp only [mergeO]
  rw [look_setO, look_mergeO_eq h]
  simp only [look]
  cases hj : Nat.beq j id with
  | true =>
   have := Nat.eq_of_beq_eq_true hj
   subst this
   rw [if_pos rfl]; rfl
  | false =>
   have hne : id ≠ j := fun e => by rw [e, Nat.beq_refl] at hj; cases hj
   rw [if_neg hne]; rfl
theorem look_mergeO {id : Nat} {oc : OC} : ∀ {l m : Objs}, look id (mergeO l m) = some oc → look id l = some oc ∨ look id m = some oc
 | [], m, h => .inr h
 | (j, o) :: l, m, h => by
  simp only [mergeO] at h
  rw [look_setO] at h
  simp only [look]
  cases hj : Nat.beq j id with
  | true =>
   have := Nat.eq_of_beq_eq_true hj
   subst this
   rw [if_pos rfl] at h
   exact .inl h
  | false =>
   have hne : id ≠ j := fun e => by rw [e, Nat.beq_refl] at hj; cases hj
   rw [if_neg hne] at h
   exact look_mergeO h
theorem popF_ids {g : FuncId} {j : Nat} : ∀ {args ps : List AV}, popF g args = some ps → j ∈ idsV.idsVs ps → j ∈ idsV.idsVs args
 | [], _, h, _ => by cases h
 | [v], ps, h, hj => by
  cases v with
  | func f a b =>
   match a, b, h with
   | [], [], h =>
    have h : (bif Nat.beq f g then some [] else none) = some ps := h
    rcases bif_some h with ⟨_, h⟩ | ⟨_, h⟩
    ·cases h; cases hj
    ·cases h
   | _ :: _, _, h => cases h
   | [], _ :: _, h => cases h
  | _ => cases h
 | v :: w :: l, ps, h, hj => by
  obtain ⟨ps', h', rfl⟩ := oM_some (show oM (popF g (w :: l)) (v :: ·) = some ps from h)
  simp only [idsV.idsVs, List.mem_append] at hj
  rcases hj with hj | hj
  ·simp only [idsV.idsVs, List.mem_append]; exact .inl hj
  ·have := popF_ids h' hj
   rw [show idsV.idsVs (v :: w :: l) = idsV v ++ idsV.idsVs (w :: l) from rfl, List.mem_append]
   exact .inr this
theorem popG_ids {g : Option FuncId} {args ps : List AV} {j : Nat} (h : popG g args = some ps) (hj : j ∈ idsV.idsVs ps) : j ∈ idsV.idsVs args := by
 cases g with
 | none => cases h; exact hj
 | some g => exact popF_ids h hj
theorem insHK_inv {R : Type} {t : Ty} {bytes : Nat} {args : List AV} {S : St} {K : AV → St → Option R} {r : R} (h : insHK t bytes args S K = some r) :
  ∃ (a b : Nat) (k : Int) (l m : List (den t)) (y : den t) (g : Nat) (cs : List AV) (far : Bool), args = [.oref a none, .int .i64 k, .oref b none] ∧ look a S.objs = some (.arr t l) ∧ look b S.objs = some (.hol t m g cs far) ∧ m = [y] ∧ 0 ≤ k ∧ k ≤ (l.length : Int) ∧ room bytes (l.length + 1) = true ∧
   K (.oref S.next none) { S with objs := setO S.next (.hol t (l.take k.toNat ++ (dflt t :: l.drop k.toNat)) k.toNat cs false) (dropO b (dropO a S.objs)), next := S.next + 1 } = some r := by
 unfold insHK at h
 split at h
 ·rename_i a k b
  split at h
  ·rename_i t1 l1 t2 m2 g cs far ha hb
   split at h
   ·rename_i l y hcl hcm
    obtain ⟨rfl, e1⟩ := castL_eq hcl
    obtain ⟨rfl, e2⟩ := castL_eq hcm
    have e1 : l1 = l := e1
    have e2 : m2 = [y] := e2
    subst e1
    rcases bif_some h with ⟨hc, h⟩ | ⟨_, h⟩
    ·simp only [Bool.and_eq_true, decide_eq_true_eq] at hc
     exact ⟨a, b, k, l1, m2, y, g, cs, far, rfl, ha, hb, e2, hc.1.1, hc.1.2, hc.2, h⟩
    ·cases h
   ·cases h
  ·cases h
 ·cases h
theorem insHK_touch {t : Ty} {bytes : Nat} {args : List AV} {S S' : St} {v : AV} {j : Nat} (h : insHK t bytes args S (fun v S' => some (v, S')) = some (v, S')) (hj : j ∉ idsV.idsVs args) (hlt : j < S.next) : look j S'.objs = look j S.objs := by
 obtain ⟨a, b, k, l, m, y, g, cs, far, rfl, _, _, _, _, _, _, h⟩ := insHK_inv h
 cases h
 simp only [idsV.idsVs, idsV, List.mem_append, List.mem_cons, List.not_mem_nil, or_false, false_or, not_or] at hj
 show look j (setO S.next _ (dropO b (dropO a S.objs))) = _
 rw [look_setO, if_neg (Nat.ne_of_lt hlt), look_dropO, if_neg hj.2, look_dropO, if_neg hj.1]
def InsHOK (P : Program) (f : FuncId) (t : Ty) (bytes : Nat) : Prop :=
 ∀ (keep : Nat → Prop) (E : Env) (objs : Objs) (a b : Nat) (k : Int) (l m : List (den t)) (y : den t) (g : Nat) (cs : List AV) (far : Bool) (vals : List Value), Mems E keep objs → look a objs = some (.arr t l) → look b objs = some (.hol t m g cs far) → m = [y] →
  SRepL E [.oref a none, .int .i64 k, .oref b none] vals → 0 ≤ k → k ≤ (l.length : Int) → room bytes (l.length + 1) = true →
  Calls P f vals.toArray E.w fun e w' => ∃ v E', e = .returned v ∧ E'.w = w' ∧ Later keep E E' ∧ Mems E' keep (setO E.N (.hol t (l.take k.toNat ++ (dflt t :: l.drop k.toNat)) k.toNat cs false) (dropO b (dropO a objs))) ∧ E'.N = E.N + 1 ∧ SRep E' (.oref E.N none) v
def HasBody (P : Program) (f : FuncId) : Prop := ∃ F, P.funcs[f]? = some F ∧ (F.name == "runtime.NumGoroutine") = false ∧ F.body.isNone = false
def CalleeOK (P : Program) (f : FuncId) : Callee → Prop
 | .sem ins outs fn g => Contract P f ins outs fn g
 | .insH t bytes => HasBody P f ∧ InsHOK P f t bytes
 | .inl fn body _ => P.funcs[f]? = some fn ∧ fn.body = some body ∧ (fn.name == "runtime.NumGoroutine") = false
 | .back n => 0 < n ∧ n ≤ 1000000 ∧ ∃ D T, TabOK P T ∧ BackOK P T f n D
 | .ext fn => ∀ (E : Env) (args : List AV) (vals : List Value) (v : AV), fn args = some v → SRepL E args vals → ∃ x, (callFunc f vals.toArray).run P E.w = .ok (.value x) E.w ∧ SRep E v x
include hT
theorem handler_sound (hP : P.follows .mixedOrders = true) {Es : List (Nat × Callee)} (hE : ∀ f c, eget f Es = some c → CalleeOK P f c) : ∀ n, HOK P (handler T Es n)
 | 0 => ⟨fun f args S K => rfl, fun f args S v S' h => (nomatch h), fun f args S v S' l h => (nomatch h), fun f n h => (nomatch h), fun f args S K r h => (nomatch h), fun f args S K r h => (nomatch h), fun f args S K r h => (nomatch h)⟩
 | n + 1 => by
  have ih := handler_sound hP hE n
  refine ⟨handler_nat T Es (n + 1), fun f args S v S' h hr => ?_, fun f args S v S' l h hr j hj hlt => ?_, fun f m h => ?_, fun f args S K r h => ?_, fun f args S K r h hx E vals hr => ?_, fun f args S K r h hx keep E vals hm hN hr => ?_⟩
  ·simp only [handler] at h hr
   split at h
   ·rename_i ins outs fn g he
    rw [he] at hr
    simp only [h, cond_true] at hr
    obtain ⟨args', _, hr⟩ := oB_some hr
    split at hr
    ·rw [Option.bind_eq_some_iff] at hr
     obtain ⟨y, _, hr⟩ := hr
     simp only [Bool.and_eq_true] at h
     have hmem : (layOut outs y ⟨S.objs, S.next⟩).2 = ⟨S.objs, S.next⟩ := layAll_pure hT outs y _ (flat_allPure outs h.1)
     cases hr
     exact ⟨by rw [hmem], by rw [hmem]⟩
    ·cases hr
   ·rename_i fn he
    rw [he] at hr
    dsimp only at hr
    split at hr
    ·cases hr; exact ⟨rfl, rfl⟩
    ·cases hr
   ·cases h
  ·simp only [handler] at h hr
   split at h
   ·rename_i ins outs fn g he
    cases h
    rw [he] at hr
    dsimp only at hr
    obtain ⟨args', hpop, hr⟩ := oB_some hr
    replace hj : j ∉ idsV.idsVs args' := fun hc => hj (popG_ids hpop hc)
    rcases bif_some hr with ⟨_, hr⟩ | ⟨_, hr⟩
    ·split at hr
     ·rw [Option.bind_eq_some_iff] at hr
      obtain ⟨y, _, hr⟩ := hr
      cases hr
      exact (layAll_touch outs y ⟨S.objs, S.next⟩).2 hlt
     ·cases hr
    ·split at hr
     ·rename_i x objs hx
      rw [Option.bind_eq_some_iff] at hr
      obtain ⟨y, _, hr⟩ := hr
      cases hr
      exact ((layAll_touch outs y ⟨objs, S.next⟩).2 hlt).trans (packArgs_touch ins hx hj)
     ·cases hr
   ·rename_i t bytes he
    cases h
    rw [he] at hr
    exact insHK_touch hr hj hlt
   ·rename_i fn body an he
    cases h
    rw [he] at hr
    dsimp only at hr
    generalize reachN S.objs 6 (idsV.idsVs args) = ids at hr hj
    rw [codeK_nat (handler_nat T Es n), Option.bind_eq_some_iff] at hr
    obtain ⟨⟨e, S1⟩, _, hr⟩ := hr
    have hj' : memN j ids = false := by
     cases hb : memN j ids with
     | false => rfl
     | true => exact absurd (memN_iff.1 hb) hj
    have key : ∀ {us : List AV}, some (oneOf us, { S with objs := mergeO (outO ids S.objs) (newO ids S.next S1.objs), next := S1.next }) = some (v, S') → look j S'.objs = look j S.objs := fun e => by
     cases e
     show look j (mergeO (outO ids S.objs) (newO ids S.next S1.objs)) = _
     rw [look_mergeO_eq, look_outO_out hj']
     cases hn : look j (newO ids S.next S1.objs) with
     | none => rfl
     | some oc =>
      have h2 := (look_newO hn).2
      rw [hj', Bool.false_or] at h2
      exact absurd (Nat.le_of_ble_eq_true h2) (by omega)
    dsimp only at hr
    split at hr
    ·cases hr
    ·split at hr
     ·exact key hr
     ·cases hr
   ·rename_i fn he
    rw [he] at hr
    dsimp only at hr
    split at hr
    ·cases hr; rfl
    ·cases hr
   ·cases h
  ·simp only [handler] at h
   split at h
   ·rename_i n' he
    cases h
    exact hE f _ he
   ·cases h
  ·unfold handler at h
   dsimp only at h
   split at h
   ·cases h
   ·cases h
   ·rename_i fn he
    exact .inr (by simp only [handler, he])
   ·rename_i t bytes he
    exact .inl (hE f _ he).1
   ·rename_i ins outs fn g he
    exact .inl (hE f _ he).has
   ·rename_i fn body an he
    obtain ⟨h1, h2, h3⟩ := hE f _ he
    exact .inl ⟨fn, h1, h3, by rw [h2]; rfl⟩
  ·simp only [handler] at hx h
   split at hx
   ·rename_i fn he
    rw [he] at h
    dsimp only at h
    split at h
    ·rename_i v hv
     obtain ⟨x, h1, h2⟩ := hE f _ he E args vals v hv hr
     exact ⟨v, x, h1, h2, h⟩
    ·cases h
   ·cases hx
  ·unfold handler at h
   dsimp only at h
   split at h
   ·cases h
   ·cases h
   ·rename_i fn he
    simp only [handler, he] at hx
    cases hx
   ·rename_i t bytes he
    have hI : InsHOK P f t bytes := (hE f _ he).2
    obtain ⟨a, b, k, l, m, y, g, cs, far, rfl, ha, hb, hm1, c1, c2, c3, h⟩ := insHK_inv h
    refine (hI keep E S.objs a b k l m y g cs far vals hm ha hb hm1 hr c1 c2 c3).mono ?_
    rintro e w' ⟨v, E', rfl, rfl, h1, h2, h3, h4⟩
    rw [hN] at h2 h3 h4
    exact ⟨_, v, { S with objs := setO S.next (.hol t (l.take k.toNat ++ (dflt t :: l.drop k.toNat)) k.toNat cs false) (dropO b (dropO a S.objs)), next := S.next + 1 }, E', rfl, rfl, h1, h2, h3, rfl, h4, h⟩
   ·rename_i ins outs fn g he
    have hC : Contract P f ins outs fn g := hE f _ he
    obtain ⟨args', hpop, h⟩ := oB_some h
    obtain ⟨vals', rfl, hr', _⟩ := popG_inv hpop hr
    replace hr := hr'
    cases hb : (allFlat outs && allPure ins) with
    | true =>
     rw [hb] at h
     simp only [Bool.and_eq_true] at hb
     simp only [cond_true] at h
     split at h
     ·rename_i x hx
      rw [Option.bind_eq_some_iff] at h
      obtain ⟨y, hy, h⟩ := h
      obtain ⟨h1, h2⟩ := lend_sound hm ins (m := ⟨[], 0⟩) hb.2 hr hx
      have hm1 : Mems { E with ro := fun b => E.ro b ∨ Live E S.objs b } keep [] :=
       ⟨fun id oc h => (nomatch h), fun id oc b h => (nomatch h), fun id id' oc oc' b h => (nomatch h), fun b hb => hb.elim (hm.rob b) fun ⟨id, oc, h1, h2⟩ => live_lt (E := E) (hm.rep _ _ h1).2 h2, hm.kb, hm.gl.mono fun _ hg => ⟨.inl (hm.gl.ro hg), rfl⟩⟩
      refine (hC.ok x y hy keep _ _ vals' [] [] hm1 h1 h2).mono ?_
      rintro e w' ⟨us, v, ob, ob', E', rfl, rfl, hres, hM, hpk, hF⟩
      have hL : Later keep E { E with w := E'.w } :=
       ⟨fun _ h => h, fun _ h => .inl h, fun _ _ => rfl, Nat.le_refl _, hF.size, fun b hb => hF.heapRo b (.inl hb), fun b hb => hF.heapKeep b (.inl hb), hF.out⟩
      have hM2 : Mems { E with w := E'.w } keep S.objs :=
       ⟨fun id oc hl => ⟨(hm.rep id oc hl).1, ORep.later hL (fun b hb => hF.heapRo b (.inr ⟨id, oc, hl, hb⟩)) (hm.rep id oc hl).2⟩, hm.sep, hm.inj, fun b hb => Nat.lt_of_lt_of_le (hm.rob b hb) hF.size, fun b hb => Nat.lt_of_lt_of_le (hm.kb b hb) hF.size, hm.gl.later hL⟩
      obtain ⟨vs', hvr, ev⟩ := hres
      have hflat := flat_results outs (B := { E with w := E'.w }) (m := ⟨S.objs, S.next⟩) hb.1 hM hvr.toS hpk
      have hmem : (layOut outs y ⟨S.objs, S.next⟩).2 = ⟨S.objs, S.next⟩ := layAll_pure hT outs y _ (flat_allPure outs hb.1)
      refine ⟨_, v, { S with objs := (layOut outs y ⟨S.objs, S.next⟩).2.objs, next := (layOut outs y ⟨S.objs, S.next⟩).2.next }, { E with w := E'.w }, rfl, rfl, hL, ?_, ?_, rfl, ResRep.one ⟨vs', hflat, ev⟩, h⟩
      ·show Mems _ keep (layOut outs y ⟨S.objs, S.next⟩).2.objs
       rw [hmem]; exact hM2
      ·show E.N = (layOut outs y ⟨S.objs, S.next⟩).2.next
       rw [hmem]; exact hN
     ·cases h
    | false =>
     rw [hb] at h
     simp only [cond_false] at h
     split at h
     ·rename_i x objs' hx
      rw [Option.bind_eq_some_iff] at h
      obtain ⟨y, hy, h⟩ := h
      refine (hC.ok x y hy keep E args' vals' S.objs objs' hm hr hx).mono ?_
      rintro e w' ⟨us, v, ob, ob', E', rfl, rfl, hres, hM, hpk, hF⟩
      have hm' := mems_sub hm (packArgs_sub ins hx)
      have hL : Later keep E { E' with M := E.M, N := E.N } :=
       ⟨hF.ro, fun b hb => (hF.roN b hb).imp id fun h hc => h (.inl hc), fun _ _ => rfl, Nat.le_refl _, hF.size, hF.heapRo, fun b hb => hF.heapKeep b (.inl hb), hF.out⟩
      have hM2 : Mems { E' with M := E.M, N := E.N } keep objs' :=
       ⟨fun id oc hl => ⟨(hm'.rep id oc hl).1, ORep.later hL (fun b hb => hF.heapKeep b (.inr ⟨id, oc, hl, hb⟩)) (hm'.rep id oc hl).2⟩,
        fun id oc b hl hb => ⟨fun hc => (hF.roN b hc).elim (hm'.sep id oc b hl hb).1 fun hc => hc (.inr ⟨id, oc, hl, hb⟩), (hm'.sep id oc b hl hb).2⟩, hm'.inj, hM.rob, fun b hb => Nat.lt_of_lt_of_le (hm.kb b hb) hF.size, hM.gl.mono fun _ hg => ⟨hM.gl.ro hg, rfl⟩⟩
      have T0 : Two 0 keep E' { E' with M := E.M, N := E.N } ob objs' :=
       ⟨rfl, rfl, fun id hi => absurd hi (Nat.not_lt_zero _), Nat.zero_le _, hM.weaker fun _ h => .inl h, hM2, fun b ⟨id, oc, h1, h2⟩ hx => (hM.sep id oc b h1 h2).2 (.inr hx)⟩
      obtain ⟨vs', hvr, ev⟩ := hres
      obtain ⟨A1, B1, g, L, T1, N1, hs⟩ := relayAll outs T0 hvr.toS hpk
      have hN' : ({ E' with M := E.M, N := E.N } : Env).N = S.next := hN
      rw [hN'] at T1 N1 hs
      refine ⟨_, v, { S with objs := (layOut outs y ⟨objs', S.next⟩).2.objs, next := (layOut outs y ⟨objs', S.next⟩).2.next }, B1, rfl, T1.w.trans g.w, hL.trans L, T1.mb, N1, rfl, ResRep.one ⟨vs', hs, ev⟩, h⟩
     ·cases h
   ·rename_i fn body an he
    obtain ⟨h1, h2, h3⟩ := hE f _ he
    generalize reachN S.objs 6 (idsV.idsVs args) = ids at h
    have hin : Mems E (fun b => keep b ∨ Live E (outO ids S.objs) b) (inO ids S.objs) := by
     refine ⟨fun id oc hl => hm.rep id oc (look_inO hl).1, fun id oc b hl hb => ⟨(hm.sep _ _ _ (look_inO hl).1 hb).1, fun hk => ?_⟩, fun id id' oc oc' b hl hl' => hm.inj _ _ _ _ _ (look_inO hl).1 (look_inO hl').1, hm.rob, fun b hb => ?_, hm.gl⟩
     ·rcases hk with hk | ⟨id', oc', h4, h5⟩
      ·exact (hm.sep _ _ _ (look_inO hl).1 hb).2 hk
      ·have := hm.inj _ _ _ _ _ (look_inO hl).1 (look_outO h4).1 hb h5
       subst this
       have h6 := (look_inO hl).2
       rw [(look_outO h4).2] at h6; cases h6
     ·rcases hb with hb | ⟨id', oc', h4, h5⟩
      ·exact hm.kb b hb
      ·exact live_lt (hm.rep _ _ (look_outO h4).1).2 h5
    refine (body_sound (K := fun vs S' => K (oneOf vs) { S with objs := mergeO (outO ids S.objs) (newO ids S.next S'.objs), next := S'.next }) hT hP ih h1 h2 h hin hN hr).mono ?_
    rintro e w' ⟨us, v, S', E', rfl, rfl, hL, hM, hN', hres, hk⟩
    refine ⟨_, v, { S with objs := mergeO (outO ids S.objs) (newO ids S.next S'.objs), next := S'.next }, E', rfl, rfl, hL.weaker fun _ h => .inl h, ?_, hN', rfl, hres.one, hk⟩
    have hout : ∀ id oc, look id (outO ids S.objs) = some oc → id < E.N ∧ E'.M id = E.M id ∧ ORep E (E.M id) oc := fun id oc hl =>
     have h0 := hm.rep _ _ (look_outO hl).1
     ⟨h0.1, hL.M id h0.1, h0.2⟩
    have hnk : ∀ id oc b, look id (outO ids S.objs) = some oc → (E.M id).blk = some b → ¬ E'.ro b := fun id oc b hl hb hr' => by
     rcases hL.roN b hr' with h4 | h4
     ·exact (hm.sep _ _ _ (look_outO hl).1 hb).1 h4
     ·exact h4 (.inr ⟨id, oc, hl, hb⟩)
    refine ⟨fun id oc hl => ?_, fun id oc b hl hb => ?_, fun id id' oc oc' b hl hl' hb hb' => ?_, hM.rob, fun b hb => hM.kb b (.inl hb), hM.gl⟩
    ·rcases look_mergeO hl with hl | hl
     ·obtain ⟨a1, a2, a3⟩ := hout id oc hl
      refine ⟨Nat.lt_of_lt_of_le a1 hL.N, ?_⟩
      rw [a2]
      exact ORep.later hL (fun b hb => hL.heapKeep b (.inr ⟨id, oc, hl, hb⟩)) a3
     ·exact hM.rep _ _ (look_newO hl).1
    ·rcases look_mergeO hl with hl | hl
     ·obtain ⟨a1, a2, a3⟩ := hout id oc hl
      rw [a2] at hb
      exact ⟨hnk id oc b hl hb, (hm.sep _ _ _ (look_outO hl).1 hb).2⟩
     ·exact ⟨(hM.sep _ _ _ (look_newO hl).1 hb).1, fun hk => (hM.sep _ _ _ (look_newO hl).1 hb).2 (.inl hk)⟩
    ·rcases look_mergeO hl with hl | hl <;> rcases look_mergeO hl' with hl' | hl'
     ·rw [(hout id oc hl).2.1] at hb
      rw [(hout id' oc' hl').2.1] at hb'
      exact hm.inj _ _ _ _ _ (look_outO hl).1 (look_outO hl').1 hb hb'
     ·rw [(hout id oc hl).2.1] at hb
      exact absurd (.inr ⟨id, oc, hl, hb⟩) (hM.sep _ _ _ (look_newO hl').1 hb').2
     ·rw [(hout id' oc' hl').2.1] at hb'
      exact absurd (.inr ⟨id', oc', hl', hb'⟩) (hM.sep _ _ _ (look_newO hl).1 hb).2
     ·exact hM.inj _ _ _ _ _ (look_newO hl).1 (look_newO hl').1 hb hb'
end
end Go.Rx
namespace Go.Rx
variable [Inhabited GW]
noncomputable def evalA (T : Tab) (E : List (Nat × Callee)) (depth : Nat) (fn : Func) (body : Code) (ann : Ann) (args : List AV) (outs : List (Bool × Ty)) : Option (denL outs) :=
 codeK T (handler T E depth) body ann none ⟨appA args (repA (.tup []) (fn.ntmps - lenA args)), [], 0⟩ fun e S' => match e with
  | .exit _ => none
  | _ => match resultsOf S' fn.results.toList T with
   | some vs => match packArgs outs vs S'.objs with
    | some (y, _) => some y
    | none => none
   | none => none
section
variable {P : Program} {T : Tab} (hT : TabOK P T)
include hT
theorem evalA_contract (hP : P.follows .mixedOrders = true) {Es : List (Nat × Callee)} {depth : Nat} (hH : HOK P (handler T Es depth)) {f : FuncId} {F : Func} {body : Code} (hf : P.funcs[f]? = some F) (hb : F.body = some body) (hname : (F.name == "runtime.NumGoroutine") = false)
  {an : Ann} {t : Ty} (ht : t.pure = true) {outs : List (Bool × Ty)} {fn : List (den t) → Option (denL outs)} (h1 : evalA T Es depth F body an [.nilsl] outs = fn []) (h2 : ∀ l, evalA T Es depth F body an [.slv t l] outs = fn l) :
  Contract P f [(false, .sl t)] outs fn := by
 refine ⟨⟨F, hf, hname, by rw [hb]; rfl⟩, fun x y hxy keep E vs vals objs objs' hm hr hp => ?_⟩
 match vs, hr, hp with
 | [v], hr, hp =>
  obtain ⟨xv, r, rfl, r1, r2⟩ := hr
  have r2 : r = [] := r2
  subst r2
  obtain ⟨E1, g, m1, t1, l1, hB⟩ := takeV_pure (t := (false, .sl t)) (by simpa [Ty.pure] using ht) hm r1 hp
  have hx1 : TRep E1 (.sl t) x [xv] := hB (m := ⟨[], 0⟩) t1
  let B : Env := { E1 with N := 0 }
  have hx2 : TRep B (.sl t) x [xv] := TRep.same (A := E1) (B := B) rfl rfl hx1
  have hwB : B.w = E.w := g.w
  have hlive : ∀ b, Live E objs' b → Live E1 objs' b := fun b ⟨id, oc, h1, h2⟩ => ⟨id, oc, h1, by rw [g.M]; exact h2⟩
  have hmB : Mems B (fun b => keep b ∨ Live E objs' b) [] :=
   ⟨fun id oc h => (nomatch h), fun id oc b h => (nomatch h), fun id id' oc oc' b h => (nomatch h), m1.rob, fun b hb => hb.elim (m1.kb b) fun hc => by
    obtain ⟨id, oc, h3, h4⟩ := hlive b hc
    exact live_lt (E := E1) (m1.rep _ _ h3).2 h4, m1.gl.mono fun _ hg => ⟨m1.gl.ro hg, rfl⟩⟩
  have fin : ∀ (a : AV), SRep B a xv → evalA T Es depth F body an [a] outs = some y → Calls P f [xv].toArray E.w fun e w' => ∃ us v ob ob' E', e = .returned v ∧ E'.w = w' ∧ ResRep E' us v ∧ Mems E' (fun b => keep b ∨ Live E objs' b) ob ∧ packArgs outs us ob = some (y, ob') ∧
    Frame1 (fun b => keep b ∨ Live E objs' b) E E' := by
   intro a ha he
   unfold evalA at he
   rw [← hwB]
   refine (body_sound (K := fun vs S' => match packArgs outs vs S'.objs with
    | some (y, _) => some y
    | none => none) hT hP hH hf hb he hmB rfl ⟨xv, [], rfl, ha, rfl⟩).mono ?_
   rintro e w' ⟨us, v, S', E', rfl, rfl, hL, hM, hN, hres, hk⟩
   split at hk
   ·rename_i y' ob' hpk
    cases hk
    refine ⟨us, v, S'.objs, ob', E', rfl, rfl, hres, hM, hpk, ⟨by rw [← hwB]; exact hL.out, fun b hb => hL.ro b (g.later.ro b hb), fun b hb => ?_, ?_, fun b hb => ?_, fun b hb => ?_⟩⟩
    ·rcases hL.roN b hb with hb | hb
     ·rcases g.later.roN b hb with h3 | h3
      ·exact .inl h3
      ·exact .inr fun hc => hc.elim h3 fun hc => by
        obtain ⟨id, oc, h4, h5⟩ := hlive b hc
        exact (m1.sep _ _ _ h4 h5).1 hb
     ·exact .inr hb
    ·rw [← hwB]; exact hL.size
    ·rw [← hwB]; exact hL.heapRo b (g.later.ro b hb)
    ·rw [← hwB]; exact hL.heapKeep b hb
   ·cases hk
  obtain ⟨a, cap, e1, ⟨hc, hn⟩, hrest⟩ := hx2
  have e1 : xv = .slice a x.length cap := by simpa using e1
  cases a with
  | none =>
   have hx0 : x.length = 0 := hrest.elim id fun ⟨_, _, h, _⟩ => (nomatch h)
   have hxe : x = [] := List.length_eq_zero_iff.1 hx0
   have hcap := hn rfl
   refine fin .nilsl ?_ ?_
   ·show [xv] = _
    rw [e1, hx0, hcap]
   ·rw [h1, ← hxe]; exact hxy
  | some a =>
   refine fin (.slv t x) ?_ ?_
   ·exact ⟨TRep.same (A := E1) (B := B) rfl rfl hx1, a, x.length, cap, by rw [e1]⟩
   ·rw [h2]; exact hxy
end
end Go.Rx
namespace Go.Rx
variable [Inhabited GW]
end Go.Rx
namespace Go.Rx
variable [Inhabited GW]
def wf : (t : Ty) → den t → Prop
 | .int k, x => k.min ≤ x ∧ x ≤ k.max
 | .bool, _ => True
 | .str, s => s.size ≤ maxLen
 | .sl t, l => l.length ≤ maxLen ∧ ∀ x ∈ l, wf t x
 | .own t, l => l.length ≤ maxLen ∧ ∀ x ∈ l, wf t x
 | .unit, _ => True
 | .pair a b, x => wf a x.1 ∧ wf b x.2
 | .arr n t, l => l.length = n ∧ ∀ x ∈ l, wf t x
def wfL : (l : List (Bool × Ty)) → denL l → Prop
 | [], _ => True
 | [t], x => wf t.2 x
 | t :: t' :: r, x => wf t.2 x.1 ∧ wfL (t' :: r) x.2
def readsF (P : Program) (r : TypeId → Ty → Bool) : List Field → Nat → Ty → Bool
 | [], _, ty => match ty with
  | .unit => true
  | _ => false
 | f :: l, off, ty => match l with
  | [] => Nat.beq f.offset off && r f.type ty && Nat.beq (P.cellsOf f.type) (width ty)
  | _ :: _ => match ty with
   | .pair a b => Nat.beq f.offset off && r f.type a && Nat.beq (P.cellsOf f.type) (width a) && readsF P r l (off + width a) b
   | _ => false
def readsT (P : Program) : Nat → TypeId → Ty → Bool
 | 0, _, _ => false
 | n + 1, t, ty => match P.underlying t with
  | some .bool => (match ty with
   | .bool => true
   | _ => false)
  | some (.int k) => (match ty with
   | .int k' => decide (k = k')
   | _ => false)
  | some .string => (match ty with
   | .str => true
   | _ => false)
  | some (.slice e) => (match ty with
   | .sl t' => readsT P n e t' && Nat.beq (P.cellsOf e) (width t') && Nat.blt 0 (width t')
   | _ => false)
  | some (.array m e) => (match ty with
   | .arr m' t' => Nat.beq m m' && readsT P n e t' && Nat.beq (P.cellsOf e) (width t') && Nat.beq (P.cellsOf t) (m * width t')
   | _ => false)
  | some (.struct fs) => readsF P (readsT P n) fs.toList 0 ty && Nat.beq (P.cellsOf t) (width ty)
  | _ => false
theorem mapM_opt {α β : Type} {f : α → Option β} : ∀ {l : List α} {r : List β}, l.mapM f = some r → r.length = l.length ∧ ∀ (i : Nat) (a : α), l[i]? = some a → ∃ y, f a = some y ∧ r[i]? = some y
 | [], r, h => by
  simp only [List.mapM_nil] at h
  cases h
  exact ⟨rfl, fun i a h => by simp at h⟩
 | a :: l, r, h => by
  rw [List.mapM_cons] at h
  cases hf : f a with
  | none => rw [hf] at h; cases h
  | some y =>
   rw [hf] at h
   cases hl : l.mapM f with
   | none => rw [hl] at h; cases h
   | some ys =>
    rw [hl] at h
    cases h
    obtain ⟨h1, h2⟩ := mapM_opt hl
    refine ⟨by simp [h1], fun i b hb => ?_⟩
    cases i with
    | zero => cases hb; exact ⟨y, hf, rfl⟩
    | succ i => exact h2 i b (by simpa using hb)
theorem ex_list {α : Type} {p : Nat → α → Prop} : ∀ (n : Nat), (∀ i, i < n → ∃ x, p i x) → ∃ l : List α, l.length = n ∧ ∀ i, (h : i < l.length) → p i l[i]
 | 0, _ => ⟨[], rfl, fun i h => absurd h (Nat.not_lt_zero _)⟩
 | n + 1, h => by
  obtain ⟨l, hl, hp⟩ := ex_list n fun i hi => h i (Nat.lt_succ_of_lt hi)
  obtain ⟨x, hx⟩ := h n (Nat.lt_succ_self _)
  refine ⟨l ++ [x], by simp [hl], fun i hi => ?_⟩
  rcases Nat.lt_or_ge i l.length with h' | h'
  ·rw [List.getElem_append_left h']; exact hp i h'
  ·have : i = n := by simp at hi; omega
   subst this
   rw [List.getElem_append_right h']
   simpa [hl] using hx
theorem all_mem {α : Type} {q : α → Prop} {l : List α} (h : ∀ i, (hi : i < l.length) → q l[i]) : ∀ x ∈ l, q x := by
 intro x hx
 obtain ⟨i, hi, e⟩ := List.getElem_of_mem hx
 rw [← e]; exact h i hi
section
variable {H : Type} {enc : TypeId × Value → H} {P : Program} {E : Env} {base : Nat} {spare : Nat → Bool} {held : Bool}
theorem fields_rep {fuel : Nat} {r : TypeId → Ty → Bool} {cs : List Value}
  (ih : ∀ {t : TypeId} {ty : Ty} {vs : List Value} {d : DataW H × List MemPlace}, r t ty = true → DataW.trod enc P E.w base spare held fuel t vs = some d → ∃ x : den ty, TRep E ty x vs ∧ wf ty x) :
  ∀ (fs : List Field) (off : Nat) (ty : Ty), readsF P r fs off ty = true → (∀ f ∈ fs, ∃ y, DataW.trod enc P E.w base spare held fuel f.type ((cs.drop f.offset).take (P.cellsOf f.type)) = some y) →
   cs.length = off + width ty → ∃ x : den ty, TRep E ty x (cs.drop off) ∧ wf ty x
 | [], off, ty, h, _, hl => by
  cases ty with
  | unit =>
   refine ⟨(), ?_, trivial⟩
   show cs.drop off = []
   exact List.drop_eq_nil_of_le (by rw [hl]; exact Nat.le_refl _)
  | _ => cases h
 | [f], off, ty, h, hf, hl => by
  simp only [readsF, Bool.and_eq_true] at h
  obtain ⟨⟨h1, h2⟩, h3⟩ := h
  obtain ⟨y, hy⟩ := hf f List.mem_cons_self
  rw [Nat.eq_of_beq_eq_true h1, Nat.eq_of_beq_eq_true h3, List.take_of_length_le (by rw [List.length_drop, hl]; omega)] at hy
  exact ih h2 hy
 | f :: g :: l, off, ty, h, hf, hl => by
  cases ty with
  | pair a b =>
   simp only [readsF, Bool.and_eq_true] at h
   obtain ⟨⟨⟨h1, h2⟩, h3⟩, h4⟩ := h
   obtain ⟨y, hy⟩ := hf f List.mem_cons_self
   rw [Nat.eq_of_beq_eq_true h1, Nat.eq_of_beq_eq_true h3] at hy
   obtain ⟨x, hx, wx⟩ := ih h2 hy
   obtain ⟨z, hz, wz⟩ := fields_rep ih (g :: l) (off + width a) b h4 (fun f' hf' => hf f' (List.mem_cons_of_mem _ hf')) (by rw [hl]; simp only [width]; omega)
   refine ⟨(x, z), ⟨(cs.drop off).take (width a), cs.drop (off + width a), ?_, hx, hz⟩, wx, wz⟩
   rw [← List.drop_drop, List.take_append_drop]
  | _ => cases h
theorem cells_get {a : Addr} {n : Nat} {cs : List Value} (h : E.w.cells? base a n = some cs) : cs.length = n ∧ ∀ j v, cs[j]? = some v → E.w.cell? (a.add j) = some v := by
 unfold World.cells? at h
 split at h
 ·obtain ⟨h1, h2⟩ := mapM_opt h
  rw [List.length_range] at h1
  refine ⟨h1, fun j v hj => ?_⟩
  have hlt : j < n := by rw [← h1]; exact (List.getElem?_eq_some_iff.1 hj).1
  obtain ⟨y, h3, h4⟩ := h2 j j (by simp [hlt])
  rw [hj] at h4; cases h4
  exact h3
 ·cases h
theorem add_add {b o : Nat} (n m : Nat) : ((⟨b, o, none⟩ : Addr).add n).add m = ⟨b, o + n + m, none⟩ := by
 unfold Addr.add
 split <;> split <;> simp_all
theorem trod_rep (hro : ∀ b, b < E.w.heap.size → E.ro b) : ∀ (n fuel : Nat) {t : TypeId} {ty : Ty} {cs : List Value} {d : DataW H × List MemPlace}, readsT P n t ty = true → DataW.trod enc P E.w base spare held fuel t cs = some d →
  ∃ x : den ty, TRep E ty x cs ∧ wf ty x
 | 0, _, _, _, _, _, h, _ => nomatch h
 | n + 1, fuel, t, ty, cs, d, h, hd => by
  unfold readsT at h
  split at h
  ·rename_i hu
   obtain ⟨b, rfl, _⟩ := DataW.trod_bool hu hd
   cases ty with
   | bool => exact ⟨b, rfl, trivial⟩
   | _ => cases h
  ·rename_i k hu
   obtain ⟨m, rfl, _, hw⟩ := DataW.trod_int hu hd
   cases ty with
   | int k' =>
    have hk : k = k' := of_decide_eq_true h
    subst hk
    refine ⟨m, rfl, ?_⟩
    simpa [Lit.wf, wf] using hw
   | _ => cases h
  ·rename_i hu
   obtain ⟨s, rfl, _, hs⟩ := DataW.trod_string hu hd
   cases ty with
   | str => exact ⟨s, rfl, hs⟩
   | _ => cases h
  ·rename_i e hu
   cases ty with
   | sl t' =>
    simp only [Bool.and_eq_true] at h
    obtain ⟨⟨h1, h2⟩, h3⟩ := h
    have h2 := Nat.eq_of_beq_eq_true h2
    have h3 : 0 < width t' := by simpa [Nat.blt_eq] using h3
    rcases DataW.trod_slice hu hd with ⟨rfl, _⟩ | ⟨a, len, cap, elems, rest, m, _, rfl, _, hb, hlc, hcm, hel, hget, _⟩
    ·exact ⟨[], ⟨none, 0, rfl, ⟨Nat.le_refl _, fun _ => rfl⟩, .inl rfl⟩, Nat.zero_le _, fun x hx => nomatch hx⟩
    ·rw [h2] at hget
     have each : ∀ i, i < len → ∃ cs', E.w.cells? base (a.add (i * width t')) (width t') = some cs' ∧ ∃ x : den t', TRep E t' x cs' ∧ wf t' x := by
      intro i hi
      have := hget i hi
      have hlt : i < elems.length := by rw [hel]; exact hi
      rw [List.getElem?_eq_getElem hlt, Option.bind_eq_some_iff] at this
      obtain ⟨cs', h4, h5⟩ := this
      exact ⟨cs', h4, trod_rep hro n m h1 h5⟩
     obtain ⟨l, hl, hp⟩ := ex_list (p := fun i (x : den t') => ∃ cs', E.w.cells? base (a.add (i * width t')) (width t') = some cs' ∧ TRep E t' x cs' ∧ wf t' x) len fun i hi => by
      obtain ⟨cs', h4, x, h5, h6⟩ := each i hi
      exact ⟨x, cs', h4, h5, h6⟩
     refine ⟨l, ⟨some a, cap, by rw [hl], ⟨by rw [hl]; exact hlc, fun h => nomatch h⟩, ?_⟩, by rw [hl]; omega, all_mem fun i hi => (hp i hi).choose_spec.2.2⟩
     rcases Nat.eq_zero_or_pos l.length with h0 | h0
     ·exact .inl h0
     ·right
      obtain ⟨cs', h4, h5, _⟩ := hp 0 h0
      obtain ⟨h6, h7⟩ := cells_get h4
      have h8 := h7 0 (cs'[0]'(by omega)) (List.getElem?_eq_getElem _)
      have ha : a.spot = none ∧ a.block < E.w.heap.size := by
       simp only [Nat.zero_mul, Addr.add, if_true, World.cell?] at h8
       split at h8
       ·rename_i c _ _ hc
        split at h8
        ·cases h8
        ·rename_i hs
         exact ⟨by simpa using hs, (Array.getElem?_eq_some_iff.1 hc).1⟩
       ·cases h8
      obtain ⟨b, o, sp⟩ := a
      obtain ⟨rfl, hlt⟩ := ha
      refine ⟨b, o, rfl, hro b hlt, fun i hi => ?_⟩
      obtain ⟨cs', h4, h5, _⟩ := hp i hi
      refine ⟨cs', h5, fun j v hj => ?_⟩
      have := (cells_get h4).2 j v hj
      rwa [add_add] at this
   | _ => cases h
  ·rename_i m e hu
   cases ty with
   | arr m' t' =>
    simp only [Bool.and_eq_true] at h
    obtain ⟨⟨⟨h0, h1⟩, h2⟩, h3⟩ := h
    have h0 := Nat.eq_of_beq_eq_true h0
    have h2 := Nat.eq_of_beq_eq_true h2
    have h3 := Nat.eq_of_beq_eq_true h3
    subst h0
    obtain ⟨xs, f, _, _, hlen, hx, hget⟩ := DataW.trod_array hu hd
    rw [h2] at hget
    obtain ⟨l, hl, hp⟩ := ex_list (p := fun i (x : den t') => TRep E t' x ((cs.drop (i * width t')).take (width t')) ∧ wf t' x) m fun i hi => by
     have := hget i hi
     have hlt : i < xs.length := by rw [hx]; exact hi
     rw [List.getElem?_eq_getElem hlt] at this
     exact trod_rep hro n f h1 this
    refine ⟨l, ⟨hl, by rw [hlen, h3], fun i hi => ⟨_, (hp i hi).1, fun j v hj => ?_⟩⟩, hl, all_mem fun i hi => (hp i hi).2⟩
    rw [List.getElem?_take] at hj
    split at hj
    ·rwa [List.getElem?_drop] at hj
    ·cases hj
   | _ => cases h
  ·rename_i fs hu
   simp only [Bool.and_eq_true] at h
   obtain ⟨h1, h2⟩ := h
   obtain ⟨xs, f, _, _, hlen, hx, hget⟩ := DataW.trod_struct hu hd
   have := fields_rep (enc := enc) (P := P) (E := E) (base := base) (spare := spare) (held := held) (fuel := f) (cs := cs) (fun {t ty vs d} h3 h4 => trod_rep hro n f h3 h4) fs.toList 0 ty h1 (fun fl hfl => by
    obtain ⟨i, hi, e⟩ := List.getElem_of_mem hfl
    have h5 : fs[i]? = some fl := by rw [← e]; simp at hi ⊢
    have h6 := hget i fl h5
    have h7 : i < xs.length := by rw [hx]; simpa using hi
    rw [List.getElem?_eq_getElem h7] at h6
    exact ⟨_, h6⟩) (by rw [hlen, Nat.zero_add]; exact Nat.eq_of_beq_eq_true h2)
   simpa using this
  ·cases h
def aggT (P : Program) (t : TypeId) : Bool :=
 match P.underlying t with
 | some (.struct _) => true
 | some (.array ..) => true
 | _ => false
def readsA (P : Program) (n : Nat) (t : TypeId) (a : Bool × Ty) : Bool :=
 readsT P n t a.2 && a.2.pure && a.2.okp && (a.1 || a.2.scalar) && (aggT P t == a.1)
def readsL (P : Program) (n : Nat) : List TypeId → List (Bool × Ty) → Bool
 | [], [] => true
 | t :: ts, a :: l => readsA P n t a && readsL P n ts l
 | _, _ => false
theorem arg_rep (hro : ∀ b, b < E.w.heap.size → E.ro b) {n : Nat} {t : TypeId} {a : Bool × Ty} {v : Value} {d : DataW H} {p : List MemPlace} {m : Mem} {r : Reach} {w : World} {b0 : Nat} {ob : Objs} (h : readsA P n t a = true)
  (hv : Value.okWide P w r b0 t v) (hd : DataW.Trod enc P E.w base spare held t v d p) : ∃ x : den a.2, wf a.2 x ∧ SRep E (layOne a x m).1 v ∧ takeV a (layOne a x m).1 ob = some (x, ob) ∧ (layOne a x m).2 = m := by
 obtain ⟨agg, ty⟩ := a
 simp only [readsA, Bool.and_eq_true] at h
 obtain ⟨⟨⟨⟨h1, h2⟩, h3⟩, h4⟩, h5⟩ := h
 obtain ⟨fuel, hd⟩ := hd
 obtain ⟨x, hx, wx⟩ := trod_rep hro n fuel h1 hd
 have hl := laid_pure ty x m h2
 have henc := toTy_enc ty x [] ob h2
 rw [appA_nil] at henc
 refine ⟨x, wx, ?_, ?_, by show (laid ty x m).2 = m; rw [hl]⟩
 ·cases agg with
  | true =>
   have : ∃ cs, v = .agg cs := by
    unfold aggT at h5
    unfold Value.okWide at hv
    split at h5
    ·rename_i fs hu
     rw [hu] at hv
     obtain ⟨cs, e, _⟩ := hv
     exact ⟨cs, e⟩
    ·rename_i hu
     rw [hu] at hv
     obtain ⟨cs, e, _⟩ := hv
     exact ⟨cs, e⟩
    ·cases h5
   obtain ⟨cs, rfl⟩ := this
   have he : (layOne (true, ty) x m).1 = .agg (Rx.enc ty x) := by show AV.agg (laid ty x m).1 = _; rw [hl]
   rw [he]
   exact ⟨cs.toList, by simp, enc_rep hx⟩
  | false =>
   have hsc : ty.scalar = true := by simpa using h4
   obtain ⟨c, ec, hcell⟩ := laid_scalar (x := x) (m := m) hsc
   have he : (layOne (false, ty) x m).1 = c := by show headA (laid ty x m).1 = c; rw [ec]; rfl
   have hvc : v.cells = #[v] := by
    unfold aggT at h5
    cases v with
    | agg cs =>
     exfalso
     unfold Value.okWide at hv
     split at h5
     ·cases h5
     ·cases h5
     ·rename_i q1 q2
      cases hu : P.underlying t with
      | none => rw [hu] at hv; simp [Cell.okWide, Cell.ok, hu] at hv
      | some u =>
       rw [hu] at hv
       cases u <;> first
        | exact q1 _ hu
        | exact q2 _ _ hu
        | simp [Cell.okWide, Cell.ok, hu] at hv
    | _ => rfl
   rw [he]
   rw [hvc] at hx
   have h6 := enc_rep hx
   have h7 : Rx.enc ty x = [c] := by rw [← ec, hl]
   rw [h7] at h6
   obtain ⟨u, r', e1, e2, e3⟩ := h6
   have e3 : r' = [] := e3
   rw [e3, List.append_nil] at e1
   rw [← e1] at e2
   have e2 : CRep E c [v] := by simpa using e2
   exact (CRep.toV e2 (by cases c <;> first | rfl | (simp [isCell] at hcell)) (fun n t l e => by rw [e] at hcell; simp [isCell] at hcell)).toS
 ·show (bif ty.okp && fitsA agg (if agg then .agg (laid ty x m).1 else headA (laid ty x m).1) && (agg || ty.scalar) then asTy ty (if agg then .agg (laid ty x m).1 else headA (laid ty x m).1) ob else none) = some (x, ob)
  cases agg with
  | true => simp [h3, fitsA, asTy, cellsOf, hl, henc]
  | false =>
   have hsc : ty.scalar = true := by simpa using h4
   obtain ⟨c, ec, hcell⟩ := laid_scalar (x := x) (m := m) hsc
   rw [← show (laid ty x m).1 = Rx.enc ty x from by rw [hl], ec] at henc
   have hco : cellsOf c = some [c] := by cases c <;> first | (simp [isCell] at hcell; done) | rfl
   have hfi : fitsA false c = true := by cases c <;> first | (simp [isCell] at hcell; done) | rfl
   simp [h3, hsc, ec, headA, hfi, asTy, hco, henc]
theorem args_rep (hro : ∀ b, b < E.w.heap.size → E.ro b) {n : Nat} {r : Reach} {w : World} {b0 : Nat} {m : Mem} {ob : Objs} : ∀ {ts : List TypeId} {ins : List (Bool × Ty)} {vs : List Value} {ds : List (DataW H)} {ps : List MemPlace}, readsL P n ts ins = true →
  (∀ (j : Nat) t v, ts[j]? = some t → vs[j]? = some v → Value.okWide P w r b0 t v) → DataW.TrodAll enc P E.w base spare held ts vs ds ps →
   ∃ x : denL ins, wfL ins x ∧ SRepL E (layAll ins x m).1 vs ∧ packArgs ins (layAll ins x m).1 ob = some (x, ob)
 | [], [], [], _, _, _, _, _ => ⟨(), trivial, rfl, rfl⟩
 | [t], [a], [v], [d], _, h, hv, hd => by
  obtain ⟨p, q, h1, h2, _⟩ := hd
  simp only [readsL, Bool.and_eq_true] at h
  obtain ⟨x, w1, w2, w3, _⟩ := arg_rep (m := m) (ob := ob) hro h.1 (hv 0 t v rfl rfl) h1
  exact ⟨x, w1, ⟨v, [], rfl, w2, rfl⟩, w3⟩
 | t :: t' :: ts, a :: a' :: l, v :: vs, d :: ds, _, h, hv, hd => by
  obtain ⟨p, q, h1, h2, _⟩ := hd
  rw [readsL, Bool.and_eq_true] at h
  obtain ⟨x, w1, w2, w3, w4⟩ := arg_rep (m := m) (ob := ob) hro h.1 (hv 0 t v rfl rfl) h1
  obtain ⟨y, y1, y2, y3⟩ := args_rep (m := m) (ob := ob) hro h.2 (fun j t v h h' => hv (j + 1) t v (by simpa using h) (by simpa using h')) h2
  refine ⟨(x, y), ⟨w1, y1⟩, ?_, ?_⟩
  ·show SRepL E ((layOne a x m).1 :: (layAll (a' :: l) y (layOne a x m).2).1) (v :: vs)
   rw [w4]
   exact ⟨v, vs, rfl, w2, y2⟩
  ·show packArgs (a :: a' :: l) ((layOne a x m).1 :: (layAll (a' :: l) y (layOne a x m).2).1) ob = some ((x, y), ob)
   rw [w4]
   simp only [packArgs, w3, y3]
 | [], _ :: _, _, _, _, h, _, _ => nomatch h
 | _ :: _, [], _, _, _, h, _, _ => nomatch h
 | [], [], _ :: _, [], _, _, _, h => nomatch h
 | [], [], _ :: _, _ :: _, _, _, _, h => nomatch h
 | _ :: _, _ :: _, [], [], _, _, _, h => nomatch h
 | _ :: _, _ :: _, [], _ :: _, _, _, _, h => nomatch h
 | _ :: _, _ :: _, _ :: _, [], _, _, _, h => nomatch h
 | [_], _ :: _ :: _, _ :: _, _ :: _, _, h, _, _ => by simp [readsL] at h
 | _ :: _ :: _, [_], _ :: _, _ :: _, _, h, _, _ => by simp [readsL] at h
 | [_], [_], _ :: _ :: _, [_], _, _, _, h => by obtain ⟨_, _, _, h, _⟩ := h; exact h.elim
 | [_], [_], _ :: _ :: _, _ :: _ :: _, _, _, _, h => by obtain ⟨_, _, _, h, _⟩ := h; exact h.elim
 | [_], [_], [_], _ :: _ :: _, _, _, _, h => by obtain ⟨_, _, _, h, _⟩ := h; exact h.elim
theorem post_of_quiet {f : Func} {s : ChangeSpec} {fresh handsOn again : Bool} {W W' : World} {args : Array Value} {ds : List (DataW H)} {before : List MemPlace} {tb : TypeId} (hl : laidOutB P = true)
  (hread : f.params.toList.all (fun t => P.readableRec t && decide (t < P.types.size)) = true) (hvars : s.vars = [])
  (hW : DataW.Whole enc P f.params.toList [] false W args.toList ds [] before) (hs : s.fn H (ds ++ []) = { results := [.lit (.bool true)], args := ds })
  (hsame : ∀ b, b < W.heap.size → W'.heap[b]? = W.heap[b]?) (hq : Quiet W W') (hr : f.resultTypes = #[tb]) (hb : P.underlying tb = some .bool) :
  s.post enc P f false fresh handsOn again W args (.bool true) W' := by
 have hlt : ∀ p ∈ before, p.block < W.heap.size := fun p hp => hW.lt p hp
 obtain ⟨p, q, hA, hV, e, hz, hn⟩ := hW
 have hq0 : q = [] := hV
 subst hq0
 rw [List.append_nil] at e
 have e : p = before := e.symm
 subst e
 have key : ∀ {ts : List TypeId} {vs : List Value} {ds : List (DataW H)} {ps : List MemPlace} {sp : Nat → Bool}, (∀ t ∈ ts, P.readableRec t = true ∧ t < P.types.size) → (∀ p ∈ ps, p.block < W.heap.size) → (∀ p ∈ ps, sp p.block = true) →
   DataW.TrodAll enc P W 0 (fun _ => true) true ts vs ds ps → DataW.TrodAll enc P W' 0 sp true ts vs ds ps := by
  intro ts
  induction ts with
  | nil =>
   intro vs ds ps sp _ _ _ h
   match vs, ds, h with
   | [], [], h => exact h
  | cons t ts ih =>
   intro vs ds ps sp ht hp hsp h
   match vs, ds, h with
   | v :: vs, d :: ds, ⟨p1, q1, h1, h2, e⟩ =>
    subst e
    obtain ⟨g1, g2⟩ := ht t List.mem_cons_self
    refine ⟨p1, q1, WideElems.Trod_stays hl g1 g2 h1 (fun x hx => ?_) (fun x hx => hsp x (List.mem_append_left _ hx)), ih (fun t h => ht t (List.mem_cons_of_mem _ h)) (fun x hx => hp x (List.mem_append_right _ hx)) (fun x hx => hsp x (List.mem_append_right _ hx)) h2, rfl⟩
    have hx' := hp x (List.mem_append_left _ hx)
    cases x with
    | cell b o => exact World.cell?_of_block (w := W) (hsame b hx')
    | map b => exact hsame b hx'
 have hts : ∀ t ∈ f.params.toList, P.readableRec t = true ∧ t < P.types.size := fun t ht => by
  have := List.all_eq_true.1 hread t ht
  simpa using this
 have hargs : ∀ sp : Nat → Bool, (∀ x ∈ p, sp x.block = true) → DataW.TrodAll enc P W' 0 sp true f.params.toList args.toList (s.fn H (ds ++ [])).args p := fun sp hsp => by
  rw [hs]; exact key hts hlt hsp hA
 have hres : ∀ (b : Nat) (sp : Nat → Bool) (hd : Bool), DataW.TrodAll enc P W' b sp hd f.resultTypes.toList ((Value.bool true).resultList f.resultTypes.size) (s.fn H (ds ++ [])).results [] := fun b sp hd => by
  rw [hs, hr]
  exact ⟨[], [], RowKit.shut_bool hb true, rfl, rfl⟩
 have hold : ∀ x ∈ p, (fun b => decide (b < W.heap.size)) x.block = true := fun x hx => by simpa using hlt x hx
 have hvv : ∀ sp : Nat → Bool, DataW.TrodVars enc P W' sp s.vars (s.fn H (ds ++ [])).vars [] := fun sp => by rw [hs, hvars]; exact rfl
 refine ⟨ds, [], p, [], p, [], ?_, hres _ _ _, hargs _ hold, hvv _, ⟨hq.1, hq.2, fun i hi => ?_⟩, fun _ => ?_⟩
 ·rw [hvars]
  exact ⟨p, [], hA, rfl, by simp, hz, hn⟩
 ·rw [hsame i hi]
  cases W.heap[i]? with
  | none => rfl
  | some o => cases o <;> simp
 ·refine ⟨RowKit.ok_one hr rfl (by simp [Value.okWide, Cell.okWide, Cell.ok, hb]), _, _, ([] ++ p) ++ [], ⟨[] ++ p, [], ChangeShapes.trodAll_append (hargs _ (fun _ _ => rfl)) (hres _ _ _), hvv _, rfl, ?_, ?_⟩, ?_⟩
  ·intro b off hp
   have hp : MemPlace.cell b off ∈ p := by simpa using hp
   have h1 := hlt _ hp
   have h2 := hz b off hp
   unfold World.frozen? at h2 ⊢
   rw [hsame b h1]
   exact h2
  ·intro ha; cases ha
  ·intro x hx _
   simpa using hx
def callsOK (P : Program) : List (Nat × Callee) → Prop
 | [] => True
 | (f, c) :: l => CalleeOK P f c ∧ callsOK P l
theorem callsOK_get : ∀ {l : List (Nat × Callee)}, callsOK P l → ∀ f c, eget f l = some c → CalleeOK P f c
 | [], _, f, c, h => nomatch h
 | (j, d) :: l, hl, f, c, h => by
  simp only [eget] at h
  rcases bif_some h with ⟨h0, h⟩ | ⟨_, h⟩
  ·cases h
   rw [← Nat.eq_of_beq_eq_true h0]
   exact hl.1
  ·exact callsOK_get hl.2 f c h
theorem law_calls_q {f : FuncId} {F : Func} {ins : List (Bool × Ty)} {fn : denL ins → Option Bool} (hC : Contract P f ins [(false, .bool)] fn) {n : Nat} (hreads : readsL P n F.params.toList ins = true)
  {Q : denL ins → Prop} (hlaw : ∀ x, wfL ins x → Q x → fn x = some true) (hl : laidOutB P = true) (hread : F.params.toList.all (fun t => P.readableRec t && decide (t < P.types.size)) = true) {tb : TypeId} (hr : F.resultTypes = #[tb])
  (hb : P.underlying tb = some .bool) {s : ChangeSpec} (hvars : s.vars = []) (hs : ∀ ds : List (DataW H), ds.length = F.params.size → s.fn H ds = { results := [.lit (.bool true)], args := ds })
  {W : World} (hlaid : LaidE { w := W, ro := fun b => b < W.heap.size, M := fun _ => ⟨none, 0, 0, 0, 0⟩, N := 0 }) {base : Nat} {args : Array Value} {ds gs : List (DataW H)} {before : List MemPlace} {fresh handsOn again : Bool}
  (hval : ∀ (j : Nat) t v, F.params[j]? = some t → args[j]? = some v → Value.okWide P W .any base t v)
  (hW : DataW.Whole enc P F.params.toList s.vars false W args.toList ds gs before) (hQ : ∀ x, wfL ins x → SRepL { w := W, ro := fun b => b < W.heap.size, M := fun _ => ⟨none, 0, 0, 0, 0⟩, N := 0 } (layAll ins x ⟨[], 0⟩).1 args.toList → Q x) :
  Calls P f args W fun e W' => ∃ v, e = .returned v ∧ s.post enc P F false fresh handsOn again W args v W' := by
 rw [hvars] at hW
 have hW0 := hW
 obtain ⟨p, q, hA, hV, e, hz, hn⟩ := hW
 have hgs : gs = [] := by
  cases gs with
  | nil => rfl
  | cons => cases hV
 subst hgs
 let E0 : Env := { w := W, ro := fun b => b < W.heap.size, M := fun _ => ⟨none, 0, 0, 0, 0⟩, N := 0 }
 obtain ⟨x, wx, hrep, hpk⟩ := args_rep (E := E0) (m := ⟨[], 0⟩) (ob := []) (fun b hb => hb) hreads (fun j t v h1 h2 => hval j t v (by simpa using h1) (by simpa using h2)) hA
 have hm : Mems E0 (fun _ => False) [] := ⟨fun id oc h => (nomatch h), fun id oc b h => (nomatch h), fun id id' oc oc' b h => (nomatch h), fun b h => h, fun b h => h.elim, hlaid⟩
 have hcall := hC.ok x true (hlaw x wx (hQ x wx hrep)) (fun _ => False) E0 _ args.toList [] [] hm hrep hpk
 have hargs : (addW none args.toList).toArray = args := by simp [addW]
 rw [hargs] at hcall
 refine hcall.mono ?_
 rintro ex W' ⟨us, v, ob, ob', E', rfl, rfl, hres, _, hpk', hF⟩
 have hv : v = .bool true := by
  obtain ⟨vs, h1, h2⟩ := hres
  match us, h1, hpk' with
  | [a], h1, hpk' =>
   obtain ⟨x, r, rfl, r1, r2⟩ := h1
   have r2 : r = [] := r2
   subst r2
   have h3 : v = x := by rw [h2]; simp
   subst h3
   simp only [packArgs, takeV] at hpk'
   rcases bif_some hpk' with ⟨h0, h4⟩ | ⟨_, h4⟩
   ·cases a with
    | bool b =>
     simp [asTy, cellsOf, toTy] at h4
     rw [← h4.1]
     have : CRep E' (.bool b) [v] := r1
     have h5 : [v] = [Value.bool b] := this
     simpa using h5
    | agg cs => simp [fitsA] at h0
    | _ => simp [asTy, cellsOf, toTy] at h4
   ·cases h4
 subst hv
 have hlen : ds.length = F.params.size := by
  have : ∀ {ts : List TypeId} {vs : List Value} {ds : List (DataW H)} {ps : List MemPlace}, DataW.TrodAll enc P W 0 (fun _ => true) true ts vs ds ps → ds.length = ts.length := by
   intro ts
   induction ts with
   | nil =>
    intro vs ds ps h
    match vs, ds, h with
    | [], [], _ => rfl
   | cons t ts ih =>
    intro vs ds ps h
    match vs, ds, h with
    | v :: vs, d :: ds, ⟨_, _, _, h2, _⟩ => simp [ih h2]
  simpa using this hA
 exact ⟨_, rfl, post_of_quiet hl hread hvars hW0 (by rw [List.append_nil]; exact hs ds hlen) (fun b hb => hF.heapRo b hb) hF.out hr hb⟩
theorem law_calls {f : FuncId} {F : Func} {ins : List (Bool × Ty)} {fn : denL ins → Option Bool} (hC : Contract P f ins [(false, .bool)] fn) {n : Nat} (hreads : readsL P n F.params.toList ins = true)
  (hlaw : ∀ x, wfL ins x → fn x = some true) (hl : laidOutB P = true) (hread : F.params.toList.all (fun t => P.readableRec t && decide (t < P.types.size)) = true) {tb : TypeId} (hr : F.resultTypes = #[tb])
  (hb : P.underlying tb = some .bool) {s : ChangeSpec} (hvars : s.vars = []) (hs : ∀ ds : List (DataW H), ds.length = F.params.size → s.fn H ds = { results := [.lit (.bool true)], args := ds })
  {W : World} (hlaid : LaidE { w := W, ro := fun b => b < W.heap.size, M := fun _ => ⟨none, 0, 0, 0, 0⟩, N := 0 }) {base : Nat} {args : Array Value} {ds gs : List (DataW H)} {before : List MemPlace} {fresh handsOn again : Bool}
  (hval : ∀ (j : Nat) t v, F.params[j]? = some t → args[j]? = some v → Value.okWide P W .any base t v)
  (hW : DataW.Whole enc P F.params.toList s.vars false W args.toList ds gs before) :
  Calls P f args W fun e W' => ∃ v, e = .returned v ∧ s.post enc P F false fresh handsOn again W args v W' :=
 law_calls_q (Q := fun _ => True) hC hreads (fun x h _ => hlaw x h) hl hread hr hb hvars hs hlaid hval hW fun _ _ _ => trivial
end
end Go.Rx
namespace Go.Rx
variable [Inhabited GW]
structure CE (P : Program) where
 f : FuncId
 c : Callee
 ok : CalleeOK P f c
def ceL {P : Program} : List (CE P) → List (Nat × Callee)
 | [] => []
 | e :: l => (e.f, e.c) :: ceL l
theorem ceL_ok {P : Program} : ∀ l : List (CE P), callsOK P (ceL l)
 | [] => trivial
 | e :: l => ⟨e.ok, ceL_ok l⟩
abbrev ceS {P : Program} {f : FuncId} {i o : List (Bool × Ty)} {fn : denL i → Option (denL o)} {g : Option FuncId} (h : Contract P f i o fn g) : CE P := ⟨f, .sem i o fn g, h⟩
abbrev ceH {P : Program} {f : FuncId} {t : Ty} {bytes : Nat} (h : HasBody P f ∧ InsHOK P f t bytes) : CE P := ⟨f, .insH t bytes, h⟩
abbrev ceI {P : Program} {f : FuncId} {F : Func} (hf : P.funcs[f]? = some F) (a : Ann) (h : (match F.body with | some _ => F.name == "runtime.NumGoroutine" | none => true) = false) : CE P :=
 ⟨f, .inl F (F.body.getD .skip) a, hf, by cases e : F.body with
  | none => rw [e] at h; cases h
  | some b => rfl, by cases e : F.body with
  | none => rw [e] at h; cases h
  | some b => rw [e] at h; exact h⟩
theorem mkC {P : Program} {T : Tab} (hT : TabOK P T) (hP : P.follows .mixedOrders = true) {f : FuncId} {F : Func} (hf : P.funcs[f]? = some F) {i o : List (Bool × Ty)} {fn : denL i → Option (denL o)} {g : Option FuncId} (a : Ann) (l : List (CE P))
  (hb : (match F.body with | some _ => F.name == "runtime.NumGoroutine" | none => true) = false) (h : ∀ x, evalF T (ceL l) 8 F (F.body.getD .skip) a i o x g = fn x) : Contract P f i o fn g :=
 evalF_contract hT hP (handler_sound hT hP (callsOK_get (ceL_ok l)) 8) hf (body := F.body.getD .skip) (by cases e : F.body with
  | none => rw [e] at hb; cases hb
  | some b => rfl) (by cases e : F.body with
  | none => rw [e] at hb; cases hb
  | some b => rw [e] at hb; exact hb) h
theorem mkCn {P : Program} {T : Tab} (hT : TabOK P T) (hP : P.follows .mixedOrders = true) {f : FuncId} {F : Func} (hf : P.funcs[f]? = some F) {t : Ty} {o : List (Bool × Ty)} {fn : List (den t) → Option (denL o)} (a : Ann) (l : List (CE P))
  (hb : (match F.body with | some _ => F.name == "runtime.NumGoroutine" | none => true) = false) (ht : t.pure = true) (h1 : evalA T (ceL l) 8 F (F.body.getD .skip) a [.nilsl] o = fn []) (h2 : ∀ x, evalA T (ceL l) 8 F (F.body.getD .skip) a [.slv t x] o = fn x) : Contract P f [(false, .sl t)] o fn :=
 evalA_contract hT hP (handler_sound hT hP (callsOK_get (ceL_ok l)) 8) hf (body := F.body.getD .skip) (by cases e : F.body with
  | none => rw [e] at hb; cases hb
  | some b => rfl) (by cases e : F.body with
  | none => rw [e] at hb; cases hb
  | some b => rw [e] at hb; exact hb) ht h1 h2
theorem contract_pick {P : Program} {f : FuncId} {i o : List (Bool × Ty)} {g : Option FuncId} {ι : Type} [Inhabited ι] {fn : ι → denL i → Option (denL o)} (pick : denL i → ι) (h : ∀ k, Contract P f i o (fn k) g) : Contract P f i o (fun x => fn (pick x) x) g :=
 ⟨(h default).has, fun x => (h (pick x)).ok x⟩
end Go.Rx
namespace Go.Rx
set_option maxRecDepth 10000 in
def insF (s1 : String) (a2 : Nat) (a3 : Nat) (a4 : Nat) (a5 : Nat) : Func := {name := s1,origin := "slices.Insert",targs := #[a2,a3],params := #[a2,3,a2],resultTypes := #[a2],nfree := 0,ntmps := 95,results := #[ResultVar.tmp 6],body := some ((Code.region 0 #[{dst := some 6,op := .assign (.const (Value.slice none 0 0)),type := a2,pos := "slices.go:136",after := #[],guard := none}] false).seq ((Code.region 1 #[{dst := some 10,op := .move (.tmp 0),type := a2,pos := "slices.go:137",after := #[],guard := none},{dst := some 11,op := .move (.tmp 1),type := 3,pos := "slices.go:137",after := #[],guard := none},{dst := some 12,op := .slice a2 (.tmp 10) (some (.tmp 11)) none none,type := a2,pos := "slices.go:137",after := #[{on := 0,ground := .data},{on := 1,ground := .data}],guard := none}] false).seq ((Code.region 2 #[{dst := some 13,op := .move (.tmp 2),type := a2,pos := "slices.go:139",after := #[],guard := none},{dst := some 14,op := .call {callee := .builtin Builtin.len,args := #[.tmp 13],argTypes := #[a2]},type := 3,pos := "slices.go:139",after := #[{on := 0,ground := .data}],guard := none},{dst := some 7,op := .assign (.tmp 14),type := 3,pos := "slices.go:139",after := #[{on := 1,ground := .data},{on := 0,ground := .phase},{on := 1,ground := .phase}],guard := none}] false).seq (((Code.region 3 #[{dst := some 15,op := .move (.tmp 7),type := 3,pos := "slices.go:140",after := #[],guard := none},{dst := some 16,op := .binOp .eql 3 (.tmp 15) (.const (Value.int IntKind.i64 0)) 3,type := 4,pos := "slices.go:140",after := #[{on := 0,ground := .data}],guard := none}] false).seq (Code.cond (.tmp 16) ((Code.region 4 #[{dst := some 17,op := .move (.tmp 0),type := a2,pos := "slices.go:141",after := #[],guard := none},{dst := some 6,op := .assign (.tmp 17),type := a2,pos := "slices.go:141",after := #[{on := 0,ground := .data},{on := 0,ground := .phase}],guard := none}] false).seq Code.ret) Code.skip)).seq ((Code.region 5 #[{dst := some 18,op := .move (.tmp 0),type := a2,pos := "slices.go:143",after := #[],guard := none},{dst := some 19,op := .call {callee := .builtin Builtin.len,args := #[.tmp 18],argTypes := #[a2]},type := 3,pos := "slices.go:143",after := #[{on := 0,ground := .data}],guard := none},{dst := some 8,op := .assign (.tmp 19),type := 3,pos := "slices.go:143",after := #[{on := 1,ground := .data},{on := 0,ground := .phase},{on := 1,ground := .phase}],guard := none}] false).seq (((Code.region 6 #[{dst := some 20,op := .move (.tmp 1),type := 3,pos := "slices.go:144",after := #[],guard := none},{dst := some 21,op := .move (.tmp 8),type := 3,pos := "slices.go:144",after := #[],guard := none},{dst := some 22,op := .binOp BinOp.eql 3 (.tmp 20) (.tmp 21) 3,type := 4,pos := "slices.go:144",after := #[{on := 0,ground := .data},{on := 1,ground := .data}],guard := none}] false).seq (Code.cond (.tmp 22) ((Code.region 7 #[{dst := some 23,op := .move (.tmp 0),type := a2,pos := "slices.go:145",after := #[],guard := none},{dst := some 24,op := .move (.tmp 2),type := a2,pos := "slices.go:145",after := #[],guard := none},{dst := some 25,op := .call {callee := .builtin Builtin.append,args := #[.tmp 23,.tmp 24],argTypes := #[a2,a2]},type := a2,pos := "slices.go:145",after := #[{on := 0,ground := .data},{on := 1,ground := .data}],guard := none},{dst := some 6,op := .assign (.tmp 25),type := a2,pos := "slices.go:145",after := #[{on := 2,ground := .data},{on := 2,ground := .chain},{on := 0,ground := .phase},{on := 1,ground := .phase},{on := 2,ground := .phase}],guard := none}] false).seq Code.ret) Code.skip)).seq (((Code.region 8 #[{dst := some 26,op := .move (.tmp 8),type := 3,pos := "slices.go:147",after := #[],guard := none},{dst := some 27,op := .move (.tmp 7),type := 3,pos := "slices.go:147",after := #[],guard := none},{dst := some 28,op := .binOp BinOp.add 3 (.tmp 26) (.tmp 27) 3,type := 3,pos := "slices.go:147",after := #[{on := 0,ground := .data},{on := 1,ground := .data}],guard := none},{dst := some 29,op := .move (.tmp 0),type := a2,pos := "slices.go:147",after := #[],guard := none},{dst := some 30,op := .call {callee := .builtin Builtin.cap,args := #[.tmp 29],argTypes := #[a2]},type := 3,pos := "slices.go:147",after := #[{on := 3,ground := .data}],guard := none},{dst := some 31,op := .binOp BinOp.gtr 3 (.tmp 28) (.tmp 30) 3,type := 4,pos := "slices.go:147",after := #[{on := 2,ground := .data},{on := 4,ground := .data}],guard := none}] false).seq (Code.cond (.tmp 31) ((Code.region 9 #[{dst := some 32,op := .move (.tmp 0),type := a2,pos := "slices.go:152",after := #[],guard := none},{dst := some 33,op := .move (.tmp 1),type := 3,pos := "slices.go:152",after := #[],guard := none},{dst := some 34,op := .slice a2 (.tmp 32) none (some (.tmp 33)) none,type := a2,pos := "slices.go:152",after := #[{on := 0,ground := .data},{on := 1,ground := .data}],guard := none},{dst := some 35,op := .move (.tmp 8),type := 3,pos := "slices.go:152",after := #[],guard := none},{dst := some 36,op := .move (.tmp 7),type := 3,pos := "slices.go:152",after := #[],guard := none},{dst := some 37,op := .binOp BinOp.add 3 (.tmp 35) (.tmp 36) 3,type := 3,pos := "slices.go:152",after := #[{on := 3,ground := .data},{on := 4,ground := .data}],guard := none},{dst := some 38,op := .move (.tmp 1),type := 3,pos := "slices.go:152",after := #[],guard := none},{dst := some 39,op := .binOp BinOp.sub 3 (.tmp 37) (.tmp 38) 3,type := 3,pos := "slices.go:152",after := #[{on := 5,ground := .data},{on := 6,ground := .data}],guard := none},{dst := some 40,op := .call {callee := .builtin Builtin.append,args := #[.tmp 34,.tmp 39],argTypes := #[a2,3]},type := a2,pos := "slices.go:152",after := #[{on := 2,ground := .data},{on := 7,ground := .data}],guard := none},{dst := some 9,op := .assign (.tmp 40),type := a2,pos := "slices.go:152",after := #[{on := 8,ground := .data},{on := 8,ground := .chain},{on := 0,ground := .phase},{on := 1,ground := .phase},{on := 2,ground := .phase},{on := 3,ground := .phase},{on := 4,ground := .phase},{on := 5,ground := .phase},{on := 6,ground := .phase},{on := 7,ground := .phase},{on := 8,ground := .phase}],guard := none}] false).seq ((Code.region 10 #[{dst := some 41,op := .move (.tmp 9),type := a2,pos := "slices.go:153",after := #[],guard := none},{dst := some 42,op := .move (.tmp 1),type := 3,pos := "slices.go:153",after := #[],guard := none},{dst := some 43,op := .slice a2 (.tmp 41) (some (.tmp 42)) none none,type := a2,pos := "slices.go:153",after := #[{on := 0,ground := .data},{on := 1,ground := .data}],guard := none},{dst := some 44,op := .move (.tmp 2),type := a2,pos := "slices.go:153",after := #[],guard := none},{dst := some 45,op := .call {callee := .builtin Builtin.copy,args := #[.tmp 43,.tmp 44],argTypes := #[a2,a2]},type := 3,pos := "slices.go:153",after := #[{on := 2,ground := .data},{on := 3,ground := .data}],guard := none}] false).seq ((Code.region 11 #[{dst := some 46,op := .move (.tmp 9),type := a2,pos := "slices.go:154",after := #[],guard := none},{dst := some 47,op := .move (.tmp 1),type := 3,pos := "slices.go:154",after := #[],guard := none},{dst := some 48,op := .move (.tmp 7),type := 3,pos := "slices.go:154",after := #[],guard := none},{dst := some 49,op := .binOp BinOp.add 3 (.tmp 47) (.tmp 48) 3,type := 3,pos := "slices.go:154",after := #[{on := 1,ground := .data},{on := 2,ground := .data}],guard := none},{dst := some 50,op := .slice a2 (.tmp 46) (some (.tmp 49)) none none,type := a2,pos := "slices.go:154",after := #[{on := 0,ground := .data},{on := 3,ground := .data}],guard := none},{dst := some 51,op := .move (.tmp 0),type := a2,pos := "slices.go:154",after := #[],guard := none},{dst := some 52,op := .move (.tmp 1),type := 3,pos := "slices.go:154",after := #[],guard := none},{dst := some 53,op := .slice a2 (.tmp 51) (some (.tmp 52)) none none,type := a2,pos := "slices.go:154",after := #[{on := 5,ground := .data},{on := 6,ground := .data}],guard := none},{dst := some 54,op := .call {callee := .builtin Builtin.copy,args := #[.tmp 50,.tmp 53],argTypes := #[a2,a2]},type := 3,pos := "slices.go:154",after := #[{on := 4,ground := .data},{on := 7,ground := .data}],guard := none}] true).seq ((Code.region 12 #[{dst := some 55,op := .move (.tmp 9),type := a2,pos := "slices.go:155",after := #[],guard := none},{dst := some 6,op := .assign (.tmp 55),type := a2,pos := "slices.go:155",after := #[{on := 0,ground := .data},{on := 0,ground := .phase}],guard := none}] false).seq Code.ret)))) Code.skip)).seq ((Code.region 13 #[{dst := some 56,op := .move (.tmp 0),type := a2,pos := "slices.go:157",after := #[],guard := none},{dst := some 57,op := .move (.tmp 8),type := 3,pos := "slices.go:157",after := #[],guard := none},{dst := some 58,op := .move (.tmp 7),type := 3,pos := "slices.go:157",after := #[],guard := none},{dst := some 59,op := .binOp BinOp.add 3 (.tmp 57) (.tmp 58) 3,type := 3,pos := "slices.go:157",after := #[{on := 1,ground := .data},{on := 2,ground := .data}],guard := none},{dst := some 60,op := .slice a2 (.tmp 56) none (some (.tmp 59)) none,type := a2,pos := "slices.go:157",after := #[{on := 0,ground := .data},{on := 3,ground := .data}],guard := none},{dst := some 0,op := .assign (.tmp 60),type := a2,pos := "slices.go:157",after := #[{on := 4,ground := .data},{on := 0,ground := .phase},{on := 1,ground := .phase},{on := 2,ground := .phase},{on := 3,ground := .phase},{on := 4,ground := .phase}],guard := none}] false).seq (((Code.region 14 #[{dst := some 61,op := .move (.tmp 2),type := a2,pos := "slices.go:173",after := #[],guard := none},{dst := some 62,op := .move (.tmp 0),type := a2,pos := "slices.go:173",after := #[],guard := none},{dst := some 63,op := .move (.tmp 1),type := 3,pos := "slices.go:173",after := #[],guard := none},{dst := some 64,op := .move (.tmp 7),type := 3,pos := "slices.go:173",after := #[],guard := none},{dst := some 65,op := .binOp BinOp.add 3 (.tmp 63) (.tmp 64) 3,type := 3,pos := "slices.go:173",after := #[{on := 2,ground := .data},{on := 3,ground := .data}],guard := none},{dst := some 66,op := .slice a2 (.tmp 62) (some (.tmp 65)) none none,type := a2,pos := "slices.go:173",after := #[{on := 1,ground := .data},{on := 4,ground := .data}],guard := none},{dst := some 67,op := .call {callee := .value (Operand.func a4),args := #[.tmp 61,.tmp 66],argTypes := #[a2,a2]},type := 4,pos := "slices.go:173",after := #[{on := 0,ground := .data},{on := 5,ground := .data}],guard := none},{dst := some 68,op := .unOp UnOp.not 4 (.tmp 67),type := 4,pos := "slices.go:173",after := #[{on := 6,ground := .data}],guard := none}] false).seq (Code.cond (.tmp 68) ((Code.region 15 #[{dst := some 69,op := .move (.tmp 0),type := a2,pos := "slices.go:178",after := #[],guard := none},{dst := some 70,op := .move (.tmp 1),type := 3,pos := "slices.go:178",after := #[],guard := none},{dst := some 71,op := .move (.tmp 7),type := 3,pos := "slices.go:178",after := #[],guard := none},{dst := some 72,op := .binOp BinOp.add 3 (.tmp 70) (.tmp 71) 3,type := 3,pos := "slices.go:178",after := #[{on := 1,ground := .data},{on := 2,ground := .data}],guard := none},{dst := some 73,op := .slice a2 (.tmp 69) (some (.tmp 72)) none none,type := a2,pos := "slices.go:178",after := #[{on := 0,ground := .data},{on := 3,ground := .data}],guard := none},{dst := some 74,op := .move (.tmp 0),type := a2,pos := "slices.go:178",after := #[],guard := none},{dst := some 75,op := .move (.tmp 1),type := 3,pos := "slices.go:178",after := #[],guard := none},{dst := some 76,op := .slice a2 (.tmp 74) (some (.tmp 75)) none none,type := a2,pos := "slices.go:178",after := #[{on := 5,ground := .data},{on := 6,ground := .data}],guard := none},{dst := some 77,op := .call {callee := .builtin Builtin.copy,args := #[.tmp 73,.tmp 76],argTypes := #[a2,a2]},type := 3,pos := "slices.go:178",after := #[{on := 4,ground := .data},{on := 7,ground := .data}],guard := none}] true).seq ((Code.region 16 #[{dst := some 78,op := .move (.tmp 0),type := a2,pos := "slices.go:186",after := #[],guard := none},{dst := some 79,op := .move (.tmp 1),type := 3,pos := "slices.go:186",after := #[],guard := none},{dst := some 80,op := .slice a2 (.tmp 78) (some (.tmp 79)) none none,type := a2,pos := "slices.go:186",after := #[{on := 0,ground := .data},{on := 1,ground := .data}],guard := none},{dst := some 81,op := .move (.tmp 2),type := a2,pos := "slices.go:186",after := #[],guard := none},{dst := some 82,op := .call {callee := .builtin Builtin.copy,args := #[.tmp 80,.tmp 81],argTypes := #[a2,a2]},type := 3,pos := "slices.go:186",after := #[{on := 2,ground := .data},{on := 3,ground := .data}],guard := none}] false).seq ((Code.region 17 #[{dst := some 83,op := .move (.tmp 0),type := a2,pos := "slices.go:193",after := #[],guard := none},{dst := some 6,op := .assign (.tmp 83),type := a2,pos := "slices.go:193",after := #[{on := 0,ground := .data},{on := 0,ground := .phase}],guard := none}] false).seq Code.ret))) Code.skip)).seq ((Code.region 18 #[{dst := some 84,op := .move (.tmp 0),type := a2,pos := "slices.go:200",after := #[],guard := none},{dst := some 85,op := .move (.tmp 8),type := 3,pos := "slices.go:200",after := #[],guard := none},{dst := some 86,op := .slice a2 (.tmp 84) (some (.tmp 85)) none none,type := a2,pos := "slices.go:200",after := #[{on := 0,ground := .data},{on := 1,ground := .data}],guard := none},{dst := some 87,op := .move (.tmp 2),type := a2,pos := "slices.go:200",after := #[],guard := none},{dst := some 88,op := .call {callee := .builtin Builtin.copy,args := #[.tmp 86,.tmp 87],argTypes := #[a2,a2]},type := 3,pos := "slices.go:200",after := #[{on := 2,ground := .data},{on := 3,ground := .data}],guard := none}] false).seq ((Code.region 19 #[{dst := some 89,op := .move (.tmp 0),type := a2,pos := "slices.go:207",after := #[],guard := none},{dst := some 90,op := .move (.tmp 1),type := 3,pos := "slices.go:207",after := #[],guard := none},{dst := some 91,op := .slice a2 (.tmp 89) (some (.tmp 90)) none none,type := a2,pos := "slices.go:207",after := #[{on := 0,ground := .data},{on := 1,ground := .data}],guard := none},{dst := some 92,op := .move (.tmp 7),type := 3,pos := "slices.go:207",after := #[],guard := none},{dst := some 93,op := .call {callee := .value (Operand.func a5),args := #[.tmp 91,.tmp 92],argTypes := #[a2,3]},type := 0,pos := "slices.go:207",after := #[{on := 2,ground := .data},{on := 3,ground := .data}],guard := none}] false).seq ((Code.region 20 #[{dst := some 94,op := .move (.tmp 0),type := a2,pos := "slices.go:214",after := #[],guard := none},{dst := some 6,op := .assign (.tmp 94),type := a2,pos := "slices.go:214",after := #[{on := 0,ground := .data},{on := 0,ground := .phase}],guard := none}] false).seq Code.ret)))))))))))),norace := false,file := "slices/slices.go",endLine := 215,met := [Departure.appendOfMake],tmpNames := (["s","i","v","s","i","v","","m","n","s2","","","","","","","","","","","","","","","","","","","","","","","","","","","","","","","","","","","","",""].append ["","","","","","","","","","","","","","","","","","","","","","","","","","","","","","","","","","","","","","","","","","","","","","","",""]).toArray}
end Go.Rx
namespace Go.Rx
open Go.RowKit Go.Proofs
variable [Inhabited GW]
theorem run_copy_gen {P : Program} {w : World} {dT sT ty elem : TypeId} {inf : TypeInfo} (hu : P.underlying dT = some (.slice elem)) (hi : P.info? elem = some inf) {b o dLen dCap xb xo sLen sCap k : Nat} (hk : Nat.min sLen dLen = k)
  {cells : List Value} (hcl : cells.length = k * inf.size) (hsrc : At w xb xo cells) {cur : Array Value} {ee : TypeId} (hb : w.heap[b]? = some (.cells cur ee (0, 0))) (hfit : o + cells.length ≤ cur.size) (one : ∀ v ∈ cells, v.oneCell' = true) :
  (Builtin.copy_ #[dT, sT] ty #[.slice (some ⟨b, o, none⟩) dLen dCap, .slice (some ⟨xb, xo, none⟩) sLen sCap]).run P w =
   (if cells.length = 0 then .ok (goInt k) w else .ok (goInt k) (w.setRow b (cur.toList.take o ++ (cells ++ cur.toList.drop (o + cells.length))).toArray)) := by
 have f1 : (Builtin.firstCells inf.size k (.slice (some ⟨xb, xo, none⟩) sLen sCap)).run P w = .ok cells.toArray w := run_first hcl (.inr ⟨xb, xo, rfl, hsrc⟩)
 simp only [Builtin.copy_, List.getElem?_toArray, List.getElem?_cons_zero, List.getElem?_cons_succ, Sem.run_bind, run_und hu, Result.andThen_ok, Builtin.lenOf, Sem.run_pure, run_size hi, hk, f1]
 by_cases h0 : cells.length = 0
 ·rw [if_pos h0]
  have : cells = [] := List.length_eq_zero_iff.1 h0
  subst this
  simp [storeCells]
 ·rw [if_neg h0]
  have hst := run_storeCells_at (P := P) b o ee cells 0 cur w hb (by omega) one
  simp only [hst]
  simp [List.append_assoc]
structure InsOK (P : Program) (f fO tS tE : Nat) (inf : TypeInfo) (z : Value) : Prop where
 mixed : P.follows .mixedOrders = true
 fn : ∃ nm fR, P.funcs[f]? = some (insF nm tS tE fO fR)
 ov : ∀ args w, (callFunc fO args).run P w = ((Extern.SlicesOverlaps.overlaps #[tS, tS] #[4] args).run P w).andThen fun v w' => .ok (.value v) w'
 t3 : P.underlying 3 = some (.int .i64)
 a3 : ∀ w, (isAgg 3).run P w = .ok false w
 z3 : ∀ w, (Go.sizeOf 3).run P w = .ok 1 w
 t4 : P.underlying 4 = some .bool
 a4 : ∀ w, (isAgg 4).run P w = .ok false w
 z4 : ∀ w, (Go.sizeOf 4).run P w = .ok 1 w
 uS : P.underlying tS = some (.slice tE)
 aS : ∀ w, (isAgg tS).run P w = .ok false w
 zS : ∀ w, (Go.sizeOf tS).run P w = .ok 1 w
 iE : P.info? tE = some inf
 zE : inf.zero = some z
 wE : 0 < inf.size
omit [Inhabited GW] in
theorem insF_ntmps (nm : String) (tS tE fO fR : Nat) : (insF nm tS tE fO fR).ntmps = 95 := rfl
omit [Inhabited GW] in
theorem shapeOf {w : World} {b : Nat} {cur : Array Value} {e : TypeId} (h : w.heap[b]? = some (.cells cur e (0, 0))) : w.shape? b = some (e, cur.size) := by
 unfold World.shape?
 rw [h]
omit [Inhabited GW] in
theorem unfrozen {w : World} {b : Nat} {cur : Array Value} {e : TypeId} (h : w.heap[b]? = some (.cells cur e (0, 0))) (o : Nat) : w.frozen? ⟨b, o, none⟩ = false := by
 unfold World.frozen?
 rw [h]
 simp
omit [Inhabited GW] in
theorem at_row {w : World} {b o n : Nat} {cur : Array Value} {e : TypeId} (h : w.heap[b]? = some (.cells cur e (0, 0))) : At w b o ((cur.toList.drop o).take n) := fun j v hj => by
 rw [List.getElem?_take] at hj
 split at hj
 ·rw [List.getElem?_drop] at hj
  simp only [World.cell?, h]
  simpa using hj
 ·cases hj
def insC (S V : List Value) (k : Nat) : List Value := S.take k ++ (V ++ S.drop k)
def InsPost (w : World) (b : Option Nat) (n m sz : Nat) (res : List Value) (e : Ending) (w' : World) : Prop :=
 ∃ b' o' c' cur' ee', e = .returned (.slice (some ⟨b', o', none⟩) (n + m) c') ∧ n + m ≤ c' ∧ Quiet w w' ∧ w.heap.size ≤ w'.heap.size ∧ w'.heap[b']? = some (.cells cur' ee' (0, 0)) ∧ o' + c' * sz ≤ cur'.size ∧
  (cur'.toList.drop o').take ((n + m) * sz) = res ∧ (∀ k, k ≠ b' → k < w.heap.size → w'.heap[k]? = w.heap[k]?) ∧ (b = some b' ∧ w'.heap.size = w.heap.size ∨ b' = w.heap.size ∧ w'.heap.size = w.heap.size + 1)
omit [Inhabited GW] in
theorem shift_cells {cur cells1 cells2 : List Value} {o is ms ns : Nat} (h1 : cells1 = (cur.drop (o + is)).take (ns - is)) (hl2 : cells2.length = ms) (hi : is ≤ ns) (hfit : o + (ns + ms) ≤ cur.length) {cur1 cur2 : List Value}
  (hc1 : cur1 = cur.take (o + (is + ms)) ++ (cells1 ++ cur.drop (o + (is + ms) + cells1.length))) (hc2 : cur2 = cur1.take (o + is) ++ (cells2 ++ cur1.drop (o + is + cells2.length))) :
  cur2.length = cur.length ∧ (cur2.drop o).take (ns + ms) = insC ((cur.drop o).take ns) cells2 is := by
 have hl1 : cells1.length = ns - is := by rw [h1, List.length_take, List.length_drop]; omega
 have hz1 : cur1.length = cur.length := by rw [hc1]; simp only [List.length_append, List.length_take, List.length_drop, hl1]; omega
 refine ⟨by rw [hc2]; simp only [List.length_append, List.length_take, List.length_drop, hl2, hz1]; omega, ?_⟩
 apply List.ext_getElem?
 intro j
 unfold insC
 rw [List.getElem?_take]
 by_cases hj : j < ns + ms
 ·rw [if_pos hj, List.getElem?_drop, hc2]
  have q1 : (cur1.take (o + is)).length = o + is := by rw [List.length_take, hz1]; omega
  have q2 : (((cur.drop o).take ns).take is).length = is := by simp only [List.length_take, List.length_drop]; omega
  have q3 : (cur.take (o + (is + ms))).length = o + (is + ms) := by rw [List.length_take]; omega
  by_cases hj1 : j < is
  ·conv => lhs; rw [List.getElem?_append_left (by rw [q1]; omega), List.getElem?_take, if_pos (by omega), hc1, List.getElem?_append_left (by rw [q3]; omega), List.getElem?_take, if_pos (by omega)]
   conv => rhs; rw [List.getElem?_append_left (by rw [q2]; omega), List.getElem?_take, if_pos hj1, List.getElem?_take, if_pos (by omega), List.getElem?_drop]
  ·by_cases hj2 : j < is + ms
   ·conv => lhs; rw [List.getElem?_append_right (by rw [q1]; omega), q1, List.getElem?_append_left (by omega)]
    conv => rhs; rw [List.getElem?_append_right (by rw [q2]; omega), q2, List.getElem?_append_left (by omega)]
    congr 1; omega
   ·conv => lhs; rw [List.getElem?_append_right (by rw [q1]; omega), q1, List.getElem?_append_right (by omega), hl2, List.getElem?_drop, hc1, List.getElem?_append_right (by rw [q3]; omega), q3, List.getElem?_append_left (by omega), h1, List.getElem?_take, if_pos (by omega), List.getElem?_drop]
    conv => rhs; rw [List.getElem?_append_right (by rw [q2]; omega), q2, List.getElem?_append_right (by omega), hl2, List.getElem?_drop, List.getElem?_take, if_pos (by omega), List.getElem?_drop]
    congr 1; omega
 ·rw [if_neg hj, List.getElem?_eq_none]
  simp only [List.length_append, List.length_take, List.length_drop, hl2]
  omega
set_option maxHeartbeats 4000000 in
set_option maxRecDepth 100000 in
theorem ins_shift {P : Program} {f fO tS tE : Nat} {inf : TypeInfo} {z : Value} (L : InsOK P f fO tS tE inf z) {w : World} {b o n c i vb vo m vc : Nat} {cur vcur : Array Value} {ee ve : TypeId} (hi : i < n) (hm : 0 < m) (hroom : n + m ≤ c) (h63 : n + m ≤ 9223372036854775807) (hvb : vb ≠ b)
  (hb : w.heap[b]? = some (.cells cur ee (0, 0))) (hfit : o + c * inf.size ≤ cur.size) (hv : w.heap[vb]? = some (.cells vcur ve (0, 0))) (hvfit : vo + m * inf.size ≤ vcur.size) (h1c : ∀ v ∈ (cur.toList.drop o).take (n * inf.size), v.oneCell' = true) (h1v : ∀ v ∈ (vcur.toList.drop vo).take (m * inf.size), v.oneCell' = true) :
  Calls P f #[.slice (some ⟨b, o, none⟩) n c, .int .i64 i, .slice (some ⟨vb, vo, none⟩) m vc] w fun e w' =>
   InsPost w (some b) n m inf.size (insC ((cur.toList.drop o).take (n * inf.size)) ((vcur.toList.drop vo).take (m * inf.size)) (i * inf.size)) e w' := by
 obtain ⟨nm, fR, fn⟩ := L.fn
 have t3 := L.t3; have a3 := L.a3; have z3 := L.z3; have t4 := L.t4; have a4 := L.a4; have z4 := L.z4; have t22 := L.uS; have a22 := L.aS; have z22 := L.zS
 have u3 := run_underlying L.t3; have u4 := run_underlying L.t4; have u22 := run_underlying L.uS
 have hz1 : ¬ ((m : Int) = 0) := by omega
 have hz2 : ¬ ((i : Int) = (n : Int)) := by omega
 have hov : ∀ lb cb, (callFunc fO #[.slice (some ⟨vb, vo, none⟩) m vc, .slice (some ⟨b, o + (i + m) * inf.size, none⟩) lb cb]).run P w = .ok (.value (.bool false)) w := fun lb cb => by
  rw [L.ov, Lib.run_overlaps_apart w tS 4 tE L.uS inf.size (fun w => run_size L.iE) ⟨vb, vo, none⟩ ⟨b, o + (i + m) * inf.size, none⟩ m vc lb cb hvb ve ee vcur.size cur.size (shapeOf hv) (shapeOf hb) (by
   have := L.wE
   have : 0 < c * inf.size := Nat.mul_pos (by omega) this
   omega) (unfrozen hv _) (unfrozen hv _)]
  rfl
 have mixed := L.mixed
 have hw1 : IntKind.i64.wrap ((i : Int) + (m : Int)) = (i : Int) + (m : Int) := by rw [IntKind.wrap_i64]; omega
 have hb1 : (0 : Int) ≤ (i : Int) + (m : Int) := by omega
 have hin : i ≤ n := by omega
 have htn : ((i : Int) + (m : Int)).toNat = i + m := by omega
 have hb2 : ¬ (c = i + m) := by omega
 have hb3 : (i : Int) ≤ (n : Int) + (m : Int) := by omega
 have hb4 : ¬ (c = i) := by omega
 have zE : ∀ w, (Go.sizeOf tE).run P w = .ok inf.size w := fun w => run_size L.iE
 obtain ⟨sz, hsz⟩ : ∃ sz, sz = inf.size := ⟨_, rfl⟩
 have hW : 0 < sz := by rw [hsz]; exact L.wE
 rw [← hsz] at hfit hvfit hov zE h1c h1v ⊢
 have e1 : (i + m) * sz = i * sz + m * sz := Nat.add_mul _ _ _
 have e2 : (n + m) * sz = n * sz + m * sz := Nat.add_mul _ _ _
 have e3 : i * sz + (n - i) * sz = n * sz := by rw [← Nat.add_mul, Nat.add_sub_cancel' hin]
 have e4 : (n + m) * sz ≤ c * sz := Nat.mul_le_mul_right _ hroom
 have e5 : 0 < (n - i) * sz := Nat.mul_pos (by omega) hW
 have e6 : 0 < m * sz := Nat.mul_pos hm hW
 obtain ⟨cells1, hc1⟩ : ∃ l, l = (cur.toList.drop (o + i * sz)).take ((n - i) * sz) := ⟨_, rfl⟩
 have hc1' : cells1 = ((cur.toList.drop o).take (n * sz)).drop (i * sz) := by rw [hc1, List.drop_take, List.drop_drop]; congr 1; omega
 have hl1 : cells1.length = (n - i) * sz := by rw [hc1, List.length_take, List.length_drop, Array.length_toList]; omega
 obtain ⟨cur1, hcur1⟩ : ∃ l, l = (cur.toList.take (o + (i + m) * sz) ++ (cells1 ++ cur.toList.drop (o + (i + m) * sz + cells1.length))).toArray := ⟨_, rfl⟩
 have hz : cur1.size = cur.size := by
  rw [hcur1]
  simp only [List.size_toArray, List.length_append, List.length_take, List.length_drop, Array.length_toList, hl1]
  omega
 have hcp1 : ∀ ty dc sc, (Builtin.copy_ #[tS, tS] ty #[.slice (some ⟨b, o + (i + m) * sz, none⟩) (n + m - (i + m)) dc, .slice (some ⟨b, o + i * sz, none⟩) (n + m - i) sc]).run P w.drew = .ok (goInt ((n - i : Nat) : Int)) (w.drew.setRow b cur1) := fun ty dc sc => by
  rw [run_copy_gen (w := w.drew) (k := n - i) (cells := cells1) (ee := ee) (cur := cur) L.uS L.iE (by simp only [Nat.min_def]; split <;> omega) (by rw [← hsz]; exact hl1) (by rw [hc1]; exact at_row (w := w.drew) hb) hb (by rw [hl1]; omega) (fun v hv => h1c v (by rw [hc1'] at hv; exact List.mem_of_mem_drop hv)), if_neg (by omega), ← hcur1]
 obtain ⟨W1, hW1⟩ : ∃ W1, W1 = w.drew.setRow b cur1 := ⟨_, rfl⟩
 have hb1' : W1.heap[b]? = some (.cells cur1 ee (0, 0)) := by rw [hW1]; exact setRow_heap w.drew b cur cur1 ee _ hb
 have hv1 : W1.heap[vb]? = some (.cells vcur ve (0, 0)) := by rw [hW1, heap_setRow_other _ _ _ _ hvb]; exact hv
 obtain ⟨cells2, hc2⟩ : ∃ l, l = (vcur.toList.drop vo).take (m * sz) := ⟨_, rfl⟩
 have hl2 : cells2.length = m * sz := by rw [hc2, List.length_take, List.length_drop, Array.length_toList]; omega
 obtain ⟨cur2, hcur2⟩ : ∃ l, l = (cur1.toList.take (o + i * sz) ++ (cells2 ++ cur1.toList.drop (o + i * sz + cells2.length))).toArray := ⟨_, rfl⟩
 have hcp2 : ∀ (W : World), W.heap = W1.heap → ∀ ty dc, (Builtin.copy_ #[tS, tS] ty #[.slice (some ⟨b, o + i * sz, none⟩) (n + m - i) dc, .slice (some ⟨vb, vo, none⟩) m vc]).run P W = .ok (goInt (m : Int)) (W.setRow b cur2) := fun W hWh ty dc => by
  rw [run_copy_gen (w := W) (k := m) (cells := cells2) (ee := ee) (cur := cur1) L.uS L.iE (by simp only [Nat.min_def]; split <;> omega) (by rw [← hsz]; exact hl2) (by rw [hc2]; exact at_row (by rw [hWh]; exact hv1)) (by rw [hWh]; exact hb1') (by rw [hl2, hz]; omega) (fun v hv => h1v v (by rw [hc2] at hv; exact hv)), if_neg (by omega), ← hcur2]
 have hcur2l : cur2.size = cur.size ∧ (cur2.toList.drop o).take ((n + m) * sz) = insC ((cur.toList.drop o).take (n * sz)) cells2 (i * sz) := by
  have := shift_cells (cur := cur.toList) (cells1 := cells1) (cells2 := cells2) (o := o) (is := i * sz) (ms := m * sz) (ns := n * sz) (cur1 := cur1.toList) (cur2 := cur2.toList) (by rw [hc1, ← e3, Nat.add_sub_cancel_left]) hl2 (by omega) (by rw [Array.length_toList]; omega)
   (by rw [hcur1, e1]) (by rw [hcur2])
  rw [Array.length_toList, Array.length_toList] at this
  rw [e2]
  exact this
 have hq1 : Quiet w W1 := by rw [hW1]; exact ⟨rfl, rfl⟩
 have hs1 : W1.heap.size = w.heap.size := by rw [hW1]; exact size_setRow w.drew _ _
 have ho1 : ∀ k, k ≠ b → W1.heap[k]? = w.heap[k]? := fun k hk => by rw [hW1]; exact heap_setRow_other w.drew _ _ _ hk
 have hfin : InsPost w (some b) n m sz (insC ((cur.toList.drop o).take (n * sz)) cells2 (i * sz)) (.returned (.slice (some ⟨b, o, none⟩) (n + m) c)) (W1.setRow b cur2) :=
  ⟨b, o, c, cur2, ee, rfl, hroom, ⟨hq1.1, hq1.2⟩, by rw [size_setRow]; omega, setRow_heap W1 b cur1 cur2 ee _ hb1', by rw [hcur2l.1]; exact hfit, hcur2l.2, fun k hk _ => (heap_setRow_other W1 _ _ _ hk).trans (ho1 k hk), .inl ⟨rfl, by rw [size_setRow]; exact hs1⟩⟩
 rw [← hW1] at hcp1
 rw [← hc2]
 clear hsz e1 e2 e3 hl1 hl2 hz hcur2l hs1 hc1 hc1' hcur1 hW1 hc2 hcur2
 go_enter fn, insF_ntmps nm tS tE fO fR
 go_wp2_with (simp only [hov])
 go_region_law_o (refine step_copy_runI rfl _ _ tS tS rfl _ _ (by simp [Act.eval, Act.put]) (by simp [Act.eval, Act.put]) (hcp1 _ _ _) ?_)
 go_wp2_with (at_builtin; refine wpList_copy_runI _ rfl _ _ tS tS rfl _ _ rfl rfl (hcp2 _ rfl _ _) ?_)
 go_ret
 exact hfin
end Go.Rx
namespace Go.Rx
open Go.RowKit Go.Proofs
variable [Inhabited GW]
omit [Inhabited GW] in
theorem insC_end (S V : List Value) (k : Nat) (h : S.length ≤ k) : insC S V k = S ++ V := by
 unfold insC
 rw [List.take_of_length_le h, List.drop_of_length_le h, List.append_nil]
set_option maxHeartbeats 4000000 in
set_option maxRecDepth 100000 in
theorem ins_end_room {P : Program} {f fO tS tE : Nat} {inf : TypeInfo} {z : Value} (L : InsOK P f fO tS tE inf z) {w : World} {b o n c vb vo m vc : Nat} {cur vcur : Array Value} {ee ve : TypeId} (hm : 0 < m) (hroom : n + m ≤ c)
  (hby : 0 < inf.bytes) (h48 : (n + m) * inf.bytes ≤ 140737488355328)
  (hb : w.heap[b]? = some (.cells cur ee (0, 0))) (hfit : o + c * inf.size ≤ cur.size) (hv : w.heap[vb]? = some (.cells vcur ve (0, 0))) (hvfit : vo + m * inf.size ≤ vcur.size) (h1v : ∀ v ∈ (vcur.toList.drop vo).take (m * inf.size), v.oneCell' = true) :
  Calls P f #[.slice (some ⟨b, o, none⟩) n c, .int .i64 n, .slice (some ⟨vb, vo, none⟩) m vc] w fun e w' =>
   InsPost w (some b) n m inf.size (insC ((cur.toList.drop o).take (n * inf.size)) ((vcur.toList.drop vo).take (m * inf.size)) (n * inf.size)) e w' := by
 obtain ⟨nm, fR, fn⟩ := L.fn
 have t3 := L.t3; have a3 := L.a3; have z3 := L.z3; have t4 := L.t4; have a4 := L.a4; have z4 := L.z4; have t22 := L.uS; have a22 := L.aS; have z22 := L.zS
 have u3 := run_underlying L.t3; have u4 := run_underlying L.t4; have u22 := run_underlying L.uS
 have hz1 : ¬ ((m : Int) = 0) := by omega
 have mixed := L.mixed
 have zE : ∀ w, (Go.sizeOf tE).run P w = .ok inf.size w := fun w => run_size L.iE
 obtain ⟨sz, hsz⟩ : ∃ sz, sz = inf.size := ⟨_, rfl⟩
 rw [← hsz] at hfit hvfit zE h1v ⊢
 have e2 : (n + m) * sz = n * sz + m * sz := Nat.add_mul _ _ _
 have e4 : (n + m) * sz ≤ c * sz := Nat.mul_le_mul_right _ hroom
 obtain ⟨S, hS⟩ : ∃ l, l = (cur.toList.drop o).take (n * sz) := ⟨_, rfl⟩
 obtain ⟨V, hV⟩ : ∃ l, l = (vcur.toList.drop vo).take (m * sz) := ⟨_, rfl⟩
 rw [← hS, ← hV]
 have hSl : S.length = n * sz := by rw [hS, List.length_take, List.length_drop, Array.length_toList]; omega
 have hVl : V.length = m * sz := by rw [hV, List.length_take, List.length_drop, Array.length_toList]; omega
 have aS : ∀ {W : World}, W.heap = w.heap → At W b o S := fun h => by rw [hS]; exact at_row (by rw [h]; exact hb)
 have aV : ∀ {W : World}, W.heap = w.heap → At W vb vo V := fun h => by rw [hV]; exact at_row (by rw [h]; exact hv)
 obtain ⟨cur2, hcur2⟩ : ∃ l, l = (cur.toList.take (o + n * sz) ++ V ++ cur.toList.drop (o + n * sz + V.length)).toArray := ⟨_, rfl⟩
 have hrun : ∀ ty, (Builtin.append_ #[tS, tS] ty #[.slice (some ⟨b, o, none⟩) n c, .slice (some ⟨vb, vo, none⟩) m vc]).run P w = .ok (.slice (some ⟨b, o, none⟩) (n + m) c) (w.setRow b cur2) := fun ty => by
  rw [run_append_any L.uS L.iE L.zE hby h48 (news := V) (olds := S) (run_first (by rw [hVl, hsz]) (.inr ⟨vb, vo, rfl, aV rfl⟩)) (run_first (by rw [hSl, hsz]) (.inr ⟨b, o, rfl, aS rfl⟩)) (run_first (by rw [hVl, hsz]) (.inr ⟨vb, vo, rfl, aV rfl⟩)), if_pos hroom]
  have hst := run_storeCells_at (P := P) b (o + n * sz) ee V 0 cur w hb (by omega) (fun v hv => h1v v (by rw [hV] at hv; exact hv))
  rw [Nat.add_zero] at hst
  simp only
  rw [← hsz, show (⟨b, o, none⟩ : Addr).add (n * sz) = ⟨b, o + n * sz, none⟩ from Addr.add_lit _ _ _, hst, ← hcur2]
  rfl
 have hfin : InsPost w (some b) n m sz (insC S V (n * sz)) (.returned (.slice (some ⟨b, o, none⟩) (n + m) c)) (w.setRow b cur2) := by
  refine ⟨b, o, c, cur2, ee, rfl, hroom, ⟨rfl, rfl⟩, by rw [size_setRow]; omega, setRow_heap w b cur cur2 ee _ hb, ?_, ?_, fun k hk _ => heap_setRow_other w _ _ _ hk, .inl ⟨rfl, size_setRow _ _ _⟩⟩
  ·rw [hcur2]
   simp only [List.size_toArray, List.length_append, List.length_take, List.length_drop, Array.length_toList, hVl]
   omega
  ·rw [insC_end _ _ _ (by omega), hcur2, List.toList_toArray]
   have e : cur.toList.take (o + n * sz) = cur.toList.take o ++ S := by rw [List.take_add, hS]
   rw [e, List.append_assoc, List.append_assoc, List.drop_append_of_le_length (by rw [List.length_take, Array.length_toList]; omega), List.drop_of_length_le (by rw [List.length_take]; omega), List.nil_append, ← List.append_assoc, List.take_append_of_le_length (by rw [List.length_append]; omega), List.take_of_length_le (by rw [List.length_append]; omega)]
 clear hsz e2 hS hV hSl hVl hcur2
 go_enter fn, insF_ntmps nm tS tE fO fR
 go_wp2_with (at_builtin; refine Lib.wpList_append_run _ rfl _ _ _ _ rfl _ _ rfl rfl _ _ (hrun _) ?_)
 go_ret
 exact hfin
set_option maxHeartbeats 4000000 in
set_option maxRecDepth 100000 in
theorem ins_end_grow {P : Program} {f fO tS tE : Nat} {inf : TypeInfo} {z : Value} (L : InsOK P f fO tS tE inf z) {w : World} {sb : Option Addr} {n c vb vo m vc : Nat} {S : List Value} {vcur : Array Value} {ve : TypeId} (hm : 0 < m) (hroom : c < n + m)
  (hby : 0 < inf.bytes) (h48 : (n + m) * inf.bytes ≤ 140737488355328) (hzl : z.cells.size = inf.size) (hnc : n ≤ c)
  (hSl : S.length = n * inf.size) (hs : n = 0 ∨ ∃ b o, sb = some ⟨b, o, none⟩ ∧ At w b o S) (hnil : sb = none → n = 0)
  (hv : w.heap[vb]? = some (.cells vcur ve (0, 0))) (hvfit : vo + m * inf.size ≤ vcur.size) (h1v : ∀ v ∈ (vcur.toList.drop vo).take (m * inf.size), v.oneCell' = true) (ob : Option Nat) :
  Calls P f #[.slice sb n c, .int .i64 n, .slice (some ⟨vb, vo, none⟩) m vc] w fun e w' =>
   InsPost w ob n m inf.size (insC S ((vcur.toList.drop vo).take (m * inf.size)) (n * inf.size)) e w' := by
 obtain ⟨nm, fR, fn⟩ := L.fn
 have t3 := L.t3; have a3 := L.a3; have z3 := L.z3; have t4 := L.t4; have a4 := L.a4; have z4 := L.z4; have t22 := L.uS; have a22 := L.aS; have z22 := L.zS
 have u3 := run_underlying L.t3; have u4 := run_underlying L.t4; have u22 := run_underlying L.uS
 have hmz : ¬ ((m : Int) = 0) := by omega
 have mixed := L.mixed
 have zE : ∀ w, (Go.sizeOf tE).run P w = .ok inf.size w := fun w => run_size L.iE
 obtain ⟨sz, hsz⟩ : ∃ sz, sz = inf.size := ⟨_, rfl⟩
 rw [← hsz] at hvfit zE hSl hzl h1v ⊢
 have e2 : (n + m) * sz = n * sz + m * sz := Nat.add_mul _ _ _
 obtain ⟨V, hV⟩ : ∃ l, l = (vcur.toList.drop vo).take (m * sz) := ⟨_, rfl⟩
 rw [← hV]
 have hVl : V.length = m * sz := by rw [hV, List.length_take, List.length_drop, Array.length_toList]; omega
 have aV : ∀ {W : World}, W.heap = w.heap → At W vb vo V := fun h => by rw [hV]; exact at_row (by rw [h]; exact hv)
 obtain ⟨G, hG⟩ : ∃ G, G = grownCap w (n + m) c tE := ⟨_, rfl⟩
 obtain ⟨row, hrow⟩ : ∃ r, r = S.toArray ++ V.toArray ++ Builtin.zeroCells z.cells (G - (n + m)) := ⟨_, rfl⟩
 have hGn : n + m ≤ G := by rw [hG]; exact grown_le w
 have hrun : ∀ ty, (Builtin.append_ #[tS, tS] ty #[.slice sb n c, .slice (some ⟨vb, vo, none⟩) m vc]).run P w = .ok (.slice (some ⟨w.heap.size, 0, none⟩) (n + m) G) (w.drew.alloc (.cells row tE)) := fun ty => by
  rw [run_append_any L.uS L.iE L.zE hby h48 (news := V) (olds := S) (run_first (by rw [hVl, hsz]) (.inr ⟨vb, vo, rfl, aV rfl⟩)) (run_first (by rw [hSl, hsz]) hs) (run_first (by rw [hVl, hsz]) (.inr ⟨vb, vo, rfl, aV rfl⟩)), if_neg (by omega), hrow, hG]
 have hrl : row.size = G * sz := by
  rw [hrow, Array.size_append, Array.size_append, zeroCells_size, hzl, List.size_toArray, List.size_toArray, hSl, hVl, ← Nat.add_mul, ← Nat.add_mul]
  congr 1; omega
 have hfin : InsPost w ob n m sz (insC S V (n * sz)) (.returned (.slice (some ⟨w.heap.size, 0, none⟩) (n + m) G)) (w.drew.alloc (.cells row tE)) := by
  refine ⟨w.heap.size, 0, G, row, tE, rfl, hGn, ⟨rfl, rfl⟩, by rw [World.size_alloc]; exact Nat.le_succ _, World.alloc_heap_new w.drew _, by omega, ?_, fun k _ hk => Below.heap_alloc w.drew _ k hk, .inr ⟨rfl, World.size_alloc _ _⟩⟩
  ·rw [insC_end _ _ _ (by omega), hrow, List.drop_zero]
   simp only [Array.toList_append]
   rw [List.take_append_of_le_length (by rw [List.length_append]; omega), List.take_of_length_le (by rw [List.length_append]; omega)]
 clear hsz e2 hV hSl hVl hrow hG hrl
 go_enter fn, insF_ntmps nm tS tE fO fR
 cases sb with
 | none =>
  have h0 := hnil rfl
  subst h0
  go_wp2_with (at_builtin; refine Lib.wpList_append_run _ rfl _ _ _ _ rfl _ _ rfl rfl _ _ (hrun _) ?_)
  go_ret
  rw [Nat.zero_mul, Nat.zero_add] at hfin
  exact hfin
 | some a =>
  obtain ⟨ab, ao, asp⟩ := a
  go_wp2_with (at_builtin; refine Lib.wpList_append_run _ rfl _ _ _ _ rfl _ _ rfl rfl _ _ (hrun _) ?_)
  all_goals (go_ret; exact hfin)
omit [Inhabited GW] in
theorem grow_cells {row row1 row2 A V B : List Value} {is ms bs : Nat} (hA : A.length = is) (hV : V.length = ms) (hB : B.length = bs) (hr : ∃ Z, row = A ++ Z) (hl : is + ms + bs ≤ row.length)
  (h1 : row1 = row.take is ++ (V ++ row.drop (is + V.length))) (h2 : row2 = row1.take (is + ms) ++ (B ++ row1.drop (is + ms + B.length))) : row2.length = row.length ∧ row2.take (is + ms + bs) = A ++ (V ++ B) := by
 obtain ⟨Z, hZ⟩ := hr
 have e1 : row.take is = A := by rw [hZ, List.take_append_of_le_length (by omega), List.take_of_length_le (by omega)]
 have hl1 : row1.length = row.length := by rw [h1]; simp only [List.length_append, List.length_take, List.length_drop]; omega
 have e2 : row1.take (is + ms) = A ++ V := by
  rw [h1, e1, ← List.append_assoc, List.take_append_of_le_length (by rw [List.length_append]; omega), List.take_of_length_le (by rw [List.length_append]; omega)]
 refine ⟨by rw [h2]; simp only [List.length_append, List.length_take, List.length_drop]; omega, ?_⟩
 rw [h2, e2, ← List.append_assoc, List.take_append_of_le_length (by simp only [List.length_append]; omega), List.take_of_length_le (by simp only [List.length_append]; omega), List.append_assoc]
set_option maxHeartbeats 4000000 in
set_option maxRecDepth 100000 in
theorem ins_grow {P : Program} {f fO tS tE : Nat} {inf : TypeInfo} {z : Value} (L : InsOK P f fO tS tE inf z) {w : World} {b o n c i vb vo m vc : Nat} {cur vcur : Array Value} {ee ve : TypeId} (hi : i < n) (hm : 0 < m) (hroom : c < n + m) (hnc : n ≤ c)
  (hby : 0 < inf.bytes) (h48 : (n + m) * inf.bytes ≤ 140737488355328) (hzl : z.cells.size = inf.size)
  (hb : w.heap[b]? = some (.cells cur ee (0, 0))) (hfit : o + n * inf.size ≤ cur.size) (hv : w.heap[vb]? = some (.cells vcur ve (0, 0))) (hvfit : vo + m * inf.size ≤ vcur.size) (h1c : ∀ v ∈ (cur.toList.drop o).take (n * inf.size), v.oneCell' = true) (h1v : ∀ v ∈ (vcur.toList.drop vo).take (m * inf.size), v.oneCell' = true) (ob : Option Nat) :
  Calls P f #[.slice (some ⟨b, o, none⟩) n c, .int .i64 i, .slice (some ⟨vb, vo, none⟩) m vc] w fun e w' =>
   InsPost w ob n m inf.size (insC ((cur.toList.drop o).take (n * inf.size)) ((vcur.toList.drop vo).take (m * inf.size)) (i * inf.size)) e w' := by
 obtain ⟨nm, fR, fn⟩ := L.fn
 have t3 := L.t3; have a3 := L.a3; have z3 := L.z3; have t4 := L.t4; have a4 := L.a4; have z4 := L.z4; have t22 := L.uS; have a22 := L.aS; have z22 := L.zS
 have u3 := run_underlying L.t3; have u4 := run_underlying L.t4; have u22 := run_underlying L.uS
 have mixed := L.mixed
 have zE : ∀ w, (Go.sizeOf tE).run P w = .ok inf.size w := fun w => run_size L.iE
 have hbw : b < w.heap.size := (Array.getElem?_eq_some_iff.1 hb).1
 have hvw : vb < w.heap.size := (Array.getElem?_eq_some_iff.1 hv).1
 obtain ⟨sz, hsz⟩ : ∃ sz, sz = inf.size := ⟨_, rfl⟩
 have hW : 0 < sz := by rw [hsz]; exact L.wE
 have hin : i ≤ n := by omega
 have hnm63 : n + m ≤ 140737488355328 := Nat.le_trans (Nat.le_mul_of_pos_right _ hby) h48
 rw [← hsz] at hfit hvfit hzl zE h1c h1v ⊢
 have e1 : (i + m) * sz = i * sz + m * sz := Nat.add_mul _ _ _
 have e2 : (n + m) * sz = n * sz + m * sz := Nat.add_mul _ _ _
 have e3 : i * sz + (n - i) * sz = n * sz := by rw [← Nat.add_mul, Nat.add_sub_cancel' hin]
 have e5 : 0 < (n - i) * sz := Nat.mul_pos (by omega) hW
 have e6 : 0 < m * sz := Nat.mul_pos hm hW
 have e7 : (n + m - i) * sz = (n - i) * sz + m * sz := by rw [← Nat.add_mul]; congr 1; omega
 obtain ⟨S, hS⟩ : ∃ l, l = (cur.toList.drop o).take (n * sz) := ⟨_, rfl⟩
 obtain ⟨V, hV⟩ : ∃ l, l = (vcur.toList.drop vo).take (m * sz) := ⟨_, rfl⟩
 rw [← hS, ← hV]
 have hSl : S.length = n * sz := by rw [hS, List.length_take, List.length_drop, Array.length_toList]; omega
 have hVl : V.length = m * sz := by rw [hV, List.length_take, List.length_drop, Array.length_toList]; omega
 have hS1 : ∀ v ∈ S, v.oneCell' = true := fun v h => h1c v (by rw [hS] at h; exact h)
 have hV1 : ∀ v ∈ V, v.oneCell' = true := fun v h => h1v v (by rw [hV] at h; exact h)
 have aS : At w b o S := by rw [hS]; exact at_row hb
 have aV : At w vb vo V := by rw [hV]; exact at_row hv
 obtain ⟨A, hA⟩ : ∃ l, l = S.take (i * sz) := ⟨_, rfl⟩
 obtain ⟨B, hB⟩ : ∃ l, l = S.drop (i * sz) := ⟨_, rfl⟩
 have hAl : A.length = i * sz := by rw [hA, List.length_take]; omega
 have hBl : B.length = (n - i) * sz := by rw [hB, List.length_drop]; omega
 have aA : At w b o A := fun j v hj => aS j v (by rw [hA, List.getElem?_take] at hj; split at hj; exact hj; cases hj)
 have aB : At w b (o + i * sz) B := fun j v hj => by
  rw [hB, List.getElem?_drop] at hj
  have := aS (i * sz + j) v hj
  rwa [← Nat.add_assoc] at this
 obtain ⟨G, hG⟩ : ∃ G, G = grownCap w (n + m) c tE := ⟨_, rfl⟩
 have hGn : n + m ≤ G := by rw [hG]; exact grown_le w
 have hG63 : G ≤ 9223372036854775807 := by
  have := grownCap_le_maxLen w (n + m) c tE (by unfold maxLen; omega)
  rw [← hG] at this
  unfold maxLen at this
  omega
 obtain ⟨row, hrow⟩ : ∃ r, r = A.toArray ++ Builtin.zeroCells z.cells (n + m - i) ++ Builtin.zeroCells z.cells (G - (n + m)) := ⟨_, rfl⟩
 have hrl : row.size = G * sz := by
  rw [hrow, Array.size_append, Array.size_append, zeroCells_size, zeroCells_size, hzl, List.size_toArray, hAl, ← Nat.add_mul, ← Nat.add_mul]
  congr 1; omega
 have hgr : (n + m) * sz ≤ G * sz := Nat.mul_le_mul_right _ hGn
 have hkk : (n : Int) + (m : Int) - (i : Int) = ((n + m - i : Nat) : Int) := by omega
 have hik : i + (n + m - i) = n + m := by omega
 have hrz : ∀ ty, (Builtin.append_ #[tS, 3] ty #[.slice (some ⟨b, o, none⟩) i c, .int .i64 ((n : Int) + (m : Int) - (i : Int))]).run P w = .ok (.slice (some ⟨w.heap.size, 0, none⟩) (n + m) G) (w.drew.alloc (.cells row tE)) := fun ty => by
  have h := Lib.run_append_grow_zeros w tS 3 ty tE inf z .i64 .i64 L.uS L.t3 L.iE L.zE (some ⟨b, o, none⟩) i c A (run_first (by rw [hAl, hsz]) (.inr ⟨b, o, rfl, aA⟩)) (n + m - i) (by omega) (by rw [← hsz]; exact hW) (by omega) (by omega)
   (by have := Nat.mul_le_mul_right inf.bytes (show n + m - i ≤ n + m by omega); omega) (by rw [hik]; exact growslice_fits hroom h48)
  rw [hik, ← hG, ← hrow] at h
  rw [hkk]
  exact h
 have hNr : ∀ {W : World}, W.heap = (w.drew.alloc (.cells row tE)).heap → W.heap[w.heap.size]? = some (.cells row tE (0, 0)) := fun h => by rw [h]; exact World.alloc_heap_new w.drew _
 have hold : ∀ {W : World} {k : Nat}, W.heap = (w.drew.alloc (.cells row tE)).heap → k < w.heap.size → W.heap[k]? = w.heap[k]? := fun h hk => by rw [h]; exact Below.heap_alloc w.drew _ _ hk
 have atO : ∀ {W : World} {k o : Nat} {l : List Value}, (W.heap[k]? = w.heap[k]?) → At w k o l → At W k o l := fun h ha j v hj => (cell_congr h).trans (ha j v hj)
 obtain ⟨row1, hrow1⟩ : ∃ r, r = (row.toList.take (i * sz) ++ (V ++ row.toList.drop (i * sz + V.length))).toArray := ⟨_, rfl⟩
 obtain ⟨row2, hrow2⟩ : ∃ r, r = (row1.toList.take ((i + m) * sz) ++ (B ++ row1.toList.drop ((i + m) * sz + B.length))).toArray := ⟨_, rfl⟩
 have hgc := grow_cells (row := row.toList) (row1 := row1.toList) (row2 := row2.toList) (A := A) (V := V) (B := B) hAl hVl hBl ⟨(Builtin.zeroCells z.cells (n + m - i)).toList ++ (Builtin.zeroCells z.cells (G - (n + m))).toList, by rw [hrow]; simp⟩
  (by rw [Array.length_toList, hrl]; omega) (by rw [hrow1]) (by rw [hrow2, e1])
 have hrl1 : row1.size = row.size := by
  rw [hrow1]
  simp only [List.size_toArray, List.length_append, List.length_take, List.length_drop, Array.length_toList, hVl]
  omega
 have hcpA : ∀ (W : World), W.heap = (w.drew.alloc (.cells row tE)).heap → ∀ ty dc, (Builtin.copy_ #[tS, tS] ty #[.slice (some ⟨w.heap.size, i * sz, none⟩) (n + m - i) dc, .slice (some ⟨vb, vo, none⟩) m vc]).run P W = .ok (goInt (m : Int)) (W.setRow w.heap.size row1) := fun W hWh ty dc => by
  rw [run_copy_gen (w := W) (k := m) (cells := V) (ee := tE) (cur := row) L.uS L.iE (by simp only [Nat.min_def]; split <;> omega) (by rw [← hsz]; exact hVl) (atO (hold hWh hvw) aV) (hNr hWh) (by rw [hVl, hrl]; omega) hV1, if_neg (by omega), ← hrow1]
 have hcpB : ∀ (W : World), W.heap = ((w.drew.alloc (.cells row tE)).setRow w.heap.size row1).heap → ∀ ty dc sc, (Builtin.copy_ #[tS, tS] ty #[.slice (some ⟨w.heap.size, (i + m) * sz, none⟩) (n + m - (i + m)) dc, .slice (some ⟨b, o + i * sz, none⟩) (n - i) sc]).run P W = .ok (goInt ((n - i : Nat) : Int)) (W.setRow w.heap.size row2) := fun W hWh ty dc sc => by
  have h1 : W.heap[w.heap.size]? = some (.cells row1 tE (0, 0)) := by rw [hWh]; exact setRow_heap _ _ row row1 tE _ (hNr rfl)
  have h2 : W.heap[b]? = w.heap[b]? := by rw [hWh, heap_setRow_other _ _ _ _ (by omega)]; exact hold rfl hbw
  rw [run_copy_gen (w := W) (k := n - i) (cells := B) (ee := tE) (cur := row1) L.uS L.iE (by simp only [Nat.min_def]; split <;> omega) (by rw [← hsz]; exact hBl) (atO h2 aB) h1 (by rw [hBl, hrl1, hrl]; omega) (fun v hv => hS1 v (by rw [hB] at hv; exact List.mem_of_mem_drop hv)), if_neg (by omega), ← hrow2]
 have hfin : ∀ W : World, W.heap = ((w.drew.alloc (.cells row tE)).setRow w.heap.size row1).heap → Quiet w W → InsPost w ob n m sz (insC S V (i * sz)) (.returned (.slice (some ⟨w.heap.size, 0, none⟩) (n + m) G)) (W.setRow w.heap.size row2) := by
  intro W hWh hq
  have h1 : W.heap[w.heap.size]? = some (.cells row1 tE (0, 0)) := by rw [hWh]; exact setRow_heap _ _ row row1 tE _ (hNr rfl)
  have hsz1 : W.heap.size = w.heap.size + 1 := by rw [hWh, size_setRow]; exact World.size_alloc _ _
  rw [Array.length_toList, Array.length_toList] at hgc
  refine ⟨w.heap.size, 0, G, row2, tE, rfl, hGn, ⟨hq.1, hq.2⟩, by rw [size_setRow]; omega, setRow_heap W _ row1 row2 tE _ h1, by rw [hgc.1, hrl]; omega, ?_, fun k hk hk2 => ?_, .inr ⟨rfl, by rw [size_setRow]; exact hsz1⟩⟩
  ·rw [List.drop_zero, show (n + m) * sz = i * sz + m * sz + (n - i) * sz by omega, hgc.2, insC, hA, hB]
  ·rw [heap_setRow_other _ _ _ _ hk, hWh, heap_setRow_other _ _ _ _ hk]
   exact hold rfl hk2
 have hz1' : ¬ ((m : Int) = 0) := by omega
 have hz2 : ¬ ((i : Int) = (n : Int)) := by omega
 have hz3 : (c : Int) < (n : Int) + (m : Int) := by omega
 have hGi : ¬ (G = i) := by omega
 have hGim : ¬ (G = i + m) := by omega
 have hci : ¬ (c = i) := by omega
 have hb1 : (0 : Int) ≤ (i : Int) + (m : Int) := by omega
 have htn : ((i : Int) + (m : Int)).toNat = i + m := by omega
 have hw1 : IntKind.i64.wrap ((i : Int) + (m : Int)) = (i : Int) + (m : Int) := by rw [IntKind.wrap_i64]; omega
 have hb3 : (i : Int) ≤ (n : Int) := by omega
 have hE : ((w.alloc (.cells row tE)).drew).heap = (w.drew.alloc (.cells row tE)).heap := rfl
 have hF : (((w.alloc (.cells row tE)).drew.setRow w.heap.size row1).drew).heap = ((w.drew.alloc (.cells row tE)).setRow w.heap.size row1).heap := rfl
 have hFq : Quiet w (((w.alloc (.cells row tE)).drew.setRow w.heap.size row1).drew) := ⟨rfl, rfl⟩
 clear hsz e1 e2 e3 e7 hS hV hSl hVl hA hB hAl hBl hG hrow hrl hrow1 hrow2 hgc hrl1 hkk hik hgr hnm63 hold hNr
 go_enter fn, insF_ntmps nm tS tE fO fR
 go_wp2_with (first
  | (at_builtin; refine Lib.wpList_append_run _ rfl _ _ _ _ rfl _ _ rfl rfl _ _ (hrz _) ?_)
  | (at_builtin; refine wpList_copy_runI _ rfl _ _ tS tS rfl _ _ rfl rfl (hcpA _ hE _ _) ?_))
 go_region_law_o (refine step_copy_runI rfl _ _ tS tS rfl (.slice (some ⟨w.heap.size, (i + m) * sz, none⟩) (n + m - (i + m)) (G - (i + m))) (.slice (some ⟨b, o + i * sz, none⟩) (n - i) (c - i)) (by simp [Act.eval, Act.put]) (by simp [Act.eval, Act.put]) (hcpB _ hF 3 (G - (i + m)) (c - i)) ?_)
 go_wp2
 go_ret
 exact hfin _ hF hFq
end Go.Rx
namespace Go.Rx
open Go.RowKit Go.Proofs
variable [Inhabited GW]
theorem view_contract {P : Program} {f : FuncId} {F : Func} (hf : P.funcs[f]? = some F) (hname : (F.name == "runtime.NumGoroutine") = false) (hb : F.body.isNone = false) {ins outs : List (Bool × Ty)} {fn : denL ins → Option (denL outs)}
  (h : ∀ x y, fn x = some y → ∀ (keep : Nat → Prop) (B : Env) (vals : List Value), Mems B keep (layAll ins x ⟨[], 0⟩).2.objs → VRepL B (layAll ins x ⟨[], 0⟩).1 vals → B.N = (layAll ins x ⟨[], 0⟩).2.next →
   Calls P f vals.toArray B.w fun e w' => ∃ us v ob ob' B', e = .returned v ∧ B'.w = w' ∧ ResRep B' us v ∧ Mems B' keep ob ∧ packArgs outs us ob = some (y, ob') ∧ Later keep B B') : Contract P f ins outs fn := by
 refine ⟨⟨F, hf, hname, hb⟩, fun x y hxy keep E vs vals objs objs' hm hr hp => ?_⟩
 have T0 : Two 0 keep E { E with N := 0 } objs [] :=
  ⟨rfl, rfl, fun _ _ => rfl, Nat.le_refl _, hm, ⟨fun id oc h => (nomatch h), fun id oc b h => (nomatch h), fun id id' oc oc' b h => (nomatch h), hm.rob, hm.kb, hm.gl.mono fun _ hg => ⟨hm.gl.ro hg, rfl⟩⟩, fun b _ hx => by obtain ⟨id, oc, h, _⟩ := hx; cases h⟩
 obtain ⟨A, B, g, L, T1, N1, hs⟩ := relayAll ins T0 hr hp
 have hlive : ∀ b, Live E objs' b → Live A objs' b := fun b ⟨id, oc, h1, h2⟩ => ⟨id, oc, h1, by rw [g.M]; exact h2⟩
 have hwB : B.w = E.w := T1.w.trans g.w
 have hmB : Mems B (fun b => keep b ∨ Live E objs' b) (layAll ins x ⟨[], 0⟩).2.objs :=
  ⟨T1.mb.rep, fun id oc b h1 h2 => ⟨(T1.mb.sep id oc b h1 h2).1, fun hc => hc.elim (T1.mb.sep id oc b h1 h2).2 fun hc => T1.ap b (hlive b hc) ⟨id, oc, h1, h2⟩⟩, T1.mb.inj, T1.mb.rob,
   fun b hb => hb.elim (T1.mb.kb b) fun hc => by
    obtain ⟨id, oc, h1, h2⟩ := hlive b hc
    have := live_lt (T1.ma.rep _ _ h1).2 h2
    rw [T1.w]; exact this, T1.mb.gl⟩
 rw [← hwB]
 refine (h x y hxy _ B vals hmB hs N1).mono ?_
 rintro e w' ⟨us, v, ob, ob', E', rfl, rfl, hres, hM, hpk, hL⟩
 refine ⟨us, v, ob, ob', E', rfl, rfl, hres, hM, hpk, ⟨by rw [← hwB]; exact hL.out, fun b hb => hL.ro b ?_, fun b hb => ?_, ?_, fun b hb => ?_, fun b hb => ?_⟩⟩
 ·rw [T1.ro]; exact g.later.ro b hb
 ·rcases hL.roN b hb with hb | hb
  ·rw [T1.ro] at hb
   rcases g.later.roN b hb with h1 | h1
   ·exact .inl h1
   ·exact .inr fun hc => hc.elim h1 fun hc => by
     obtain ⟨id, oc, h2, h3⟩ := hlive b hc
     exact (T1.ma.sep _ _ _ h2 h3).1 hb
  ·exact .inr hb
 ·rw [← hwB]; exact hL.size
 ·rw [← hwB]; exact hL.heapRo b (by rw [T1.ro]; exact g.later.ro b hb)
 ·rw [← hwB]; exact hL.heapKeep b hb
theorem own_of_take {E : Env} {m : MI} {t : Ty} {l : List (den t)} {b : Nat} {cur : Array Value} {seg : List Value} {e : TypeId} (hlen : m.len = l.length) (hwd : m.wd = width t) (hb : m.blk = some b)
  (hg : E.w.heap[b]? = some (.cells cur e (0, 0))) (hcap : l.length ≤ m.cap) (hsz : m.base + m.cap * width t ≤ cur.size) (hs : (cur.toList.drop m.base).take (l.length * width t) = seg)
  (hr : TRep E (.arr l.length t) l seg) : ORep E m (.arr t l) := by
 refine ⟨hlen, hwd, ?_⟩
 rw [hb]
 obtain ⟨_, e2, r⟩ := hr
 refine ⟨cur, e, hg, hcap, hsz, fun i hi => ?_⟩
 obtain ⟨cs, r1, r2⟩ := r i hi
 refine ⟨cs, r1, fun j v hj => ?_⟩
 have := r2 j v hj
 rw [← hs, List.getElem?_take] at this
 split at this
 ·rw [List.getElem?_drop, Array.getElem?_toList] at this
  rw [Nat.add_assoc]; exact this
 ·cases this
omit [Inhabited GW] in
theorem heap_pushed {a c : Array Obj} {o : Obj} (hs : c.size = a.size + 1) (hold : ∀ k, k < a.size → c[k]? = a[k]?) (hn : c[a.size]? = some o) : c = a.push o := by
 apply Array.ext_getElem?
 intro k
 rw [Array.getElem?_push]
 by_cases hk : k = a.size
 ·rw [if_pos hk, hk, hn]
 ·rw [if_neg hk]
  by_cases hk2 : k < a.size
  ·exact hold k hk2
  ·rw [Array.getElem?_eq_none (by omega), Array.getElem?_eq_none (by omega)]
theorem ins_rep {E : Env} {t : Ty} {l v : List (den t)} {S V : List Value} {i : Nat} (hS : TRep E (.arr l.length t) l S) (hV : TRep E (.arr v.length t) v V) (hi : i ≤ l.length) :
  TRep E (.arr (l.take i ++ (v ++ l.drop i)).length t) (l.take i ++ (v ++ l.drop i)) (insC S V (i * width t)) := by
 have h1 := arr_part hS (off := 0) (len := i) (by omega)
 have h2 := arr_part hS (off := i) (len := l.length - i) (by omega)
 rw [Nat.zero_mul, List.drop_zero, List.drop_zero] at h1
 have hl : S.length = l.length * width t := hS.2.1
 rw [List.take_of_length_le (by rw [List.length_drop]; exact Nat.le_refl _), List.take_of_length_le (by rw [List.length_drop, hl, Nat.sub_mul]; exact Nat.le_refl _)] at h2
 have h3 := arr_app h1 (arr_app hV h2)
 rw [show i + (v.length + (l.length - i)) = (l.take i ++ (v ++ l.drop i)).length by simp only [List.length_append, List.length_take, List.length_drop]; omega] at h3
 exact h3
theorem ins_contract {P : Program} {f fO tS tE : Nat} {inf : TypeInfo} {z : Value} (L : InsOK P f fO tS tE inf z) {F : Func} (hf : P.funcs[f]? = some F) (hname : (F.name == "runtime.NumGoroutine") = false) (hb : F.body.isNone = false)
  {t : Ty} (ht : t.pure = true) (hw : inf.size = width t) (hby : 0 < inf.bytes) (hzl : z.cells.size = inf.size) :
  Contract P f [(false, .own t), (false, .int .i64), (false, .own t)] [(false, .own t)] fun x => insT inf.bytes x.1 x.2.1 x.2.2 := by
 refine view_contract hf hname hb fun x y hxy keep B vals hm hs hN => ?_
 obtain ⟨l, i, v⟩ := x
 change List (den t) at l
 change List (den t) at v
 change Int at i
 have hxy : insT inf.bytes l i v = some y := hxy
 unfold insT at hxy
 rcases bif_some hxy with ⟨hc, hxy⟩ | ⟨_, hxy⟩
 case inr => cases hxy
 cases hxy
 simp only [Bool.and_eq_true, decide_eq_true_eq] at hc
 obtain ⟨⟨c1, c2⟩, c3, c4⟩ := hc
 have c4 : (l.length + v.length) * inf.bytes ≤ 140737488355328 := by simpa [room] using c4
 obtain ⟨k, rfl⟩ : ∃ k : Nat, i = (k : Int) := ⟨i.toNat, (Int.toNat_of_nonneg c1).symm⟩
 rw [Int.toNat_natCast]
 obtain ⟨v0, r0, rfl, s0, vi, r1, rfl, si, v2, r2, rfl, s2, s3⟩ := hs
 have s3 : r2 = [] := s3
 subst s3
 have si : CRep B (.int .i64 (k : Int)) [vi] := si
 have si : vi = .int .i64 (k : Int) := by simpa [CRep] using si
 subst si
 have s0 : CRep B (.oref 0 none) [v0] := s0
 have s2 : CRep B (.oref 1 none) [v2] := s2
 have l0 : look 0 (layAll [(false, Ty.own t), (false, Ty.int .i64), (false, Ty.own t)] (l, (k : Int), v) ⟨[], 0⟩).2.objs = some (.arr t l) := rfl
 have l1 : look 1 (layAll [(false, Ty.own t), (false, Ty.int .i64), (false, Ty.own t)] (l, (k : Int), v) ⟨[], 0⟩).2.objs = some (.arr t v) := rfl
 generalize (layAll [(false, Ty.own t), (false, Ty.int .i64), (false, Ty.own t)] (l, (k : Int), v) ⟨[], 0⟩).2.objs = objs at hm l0 l1
 have o0 := (hm.rep _ _ l0).2
 have o1 := (hm.rep _ _ l1).2
 have hWp : 0 < width t := by rw [← hw]; exact L.wE
 obtain ⟨_, g1⟩ := s2
 have hvn : ∃ vb, (B.M 1).blk = some vb := by
  cases hbk : (B.M 1).blk with
  | some vb => exact ⟨vb, rfl⟩
  | none =>
   have := o1.2.2
   rw [hbk] at this
   have : v = [] := this
   rw [this] at c3; simp at c3
 obtain ⟨vb, hvb⟩ := hvn
 obtain ⟨vcur, ve, q1, q2, q3, q4⟩ := own_seg o1 hvb
 rw [hvb] at g1
 have h1len : (B.M 1).len = v.length := o1.1
 obtain ⟨vo, vc, e2, p1, p2, p3⟩ := g1
 have e2 : v2 = .slice (some ⟨vb, vo, none⟩) v.length vc := by simpa [rLen, h1len] using e2
 subst e2
 have p1 : v.length ≤ vc := by simpa [rLen, h1len] using p1
 have hvo : vo = (B.M 1).base := by
  rcases p3 with p3 | p3
  ·omega
  ·simpa [rOff] using p3.1
 subst hvo
 have hmul : v.length * width t ≤ (B.M 1).cap * width t := Nat.mul_le_mul_right _ q2
 have hv1 : ∀ u ∈ (vcur.toList.drop (B.M 1).base).take (v.length * inf.size), u.oneCell' = true := by rw [hw]; exact TRep.one q4
 have hvfit : (B.M 1).base + v.length * inf.size ≤ vcur.size := by rw [hw]; omega
 have fin : ∀ {ob : Option Nat} {S : List Value}, TRep B (.arr l.length t) l S → (∀ b, ob = some b → (B.M 0).blk = some b) → ∀ e w', InsPost B.w ob l.length v.length inf.size (insC S ((vcur.toList.drop (B.M 1).base).take (v.length * inf.size)) (k * inf.size)) e w' →
   ∃ us v' ob ob' B', e = .returned v' ∧ B'.w = w' ∧ ResRep B' us v' ∧ Mems B' keep ob ∧ packArgs [(false, Ty.own t)] us ob = some (l.take k ++ (v ++ l.drop k), ob') ∧ Later keep B B' := by
  intro ob S hS hob e w' ⟨b', o', c', cur', ee', he, hc', hq, hsz, hb', hfit', hres, hold, hcase⟩
  rw [hw] at hres hfit'
  have hrep := ins_rep (i := k) hS q4 (by omega)
  generalize hL : l.take k ++ (v ++ l.drop k) = nl at hrep ⊢
  have hnl : nl.length = l.length + v.length := by rw [← hL]; simp only [List.length_append, List.length_take, List.length_drop]; omega
  have hor : ∀ E : Env, E.w = w' → Later keep B E → ORep E ⟨some b', o', nl.length, c', width t⟩ (.arr t nl) := fun E hE hlat =>
   own_of_take rfl rfl rfl (by rw [hE]; exact hb') (by rw [hnl]; exact hc') hfit' (by rw [hnl]; exact hres) (TRep.later hlat hrep)
  have hpk : ∀ ob : Objs, look B.N ob = some (.arr t nl) → packArgs [(false, Ty.own t)] [.oref B.N none] ob = some (nl, dropO B.N ob) := by
   intro ob hl
   have h1 : (Ty.own t).okp = true := ht
   simp only [packArgs, takeV, h1, fitsA, Ty.scalar, asTy, cellsOf, toTy, takeOwn, hl]
   simp [castL, oM, rTake]
  have hsr : ∀ E : Env, E = B.new w' ⟨some b', o', nl.length, c', width t⟩ → ResRep E [.oref B.N none] (.slice (some ⟨b', o', none⟩) (l.length + v.length) c') := by
   rintro E rfl
   have := oref_new (E := B) (w := w') (m := ⟨some b', o', nl.length, c', width t⟩) rfl (by show nl.length ≤ c'; rw [hnl]; exact hc')
   rw [← hnl]
   exact ⟨[_], ⟨_, _, rfl, this, rfl⟩, rfl⟩
  rcases hcase with ⟨e1, hsz2⟩ | ⟨e1, hsz2⟩
  ·have hbk := hob b' e1
   have hho : ∀ k, k ≠ b' → w'.heap[k]? = B.w.heap[k]? := fun k hk => by
    rcases Nat.lt_or_ge k B.w.heap.size with h | h
    ·exact hold k hk h
    ·rw [Array.getElem?_eq_none (by omega), Array.getElem?_eq_none (by omega)]
   obtain ⟨hlat, hM⟩ := mems_renew (E := B) (keep := keep) (w := w') (m := ⟨some b', o', nl.length, c', width t⟩) (j := 0) (b := b') (oc' := .arr t nl) hq hsz2 hho hm l0 hbk rfl (fun hlat => hor _ rfl hlat)
   refine ⟨_, _, _, _, B.new w' ⟨some b', o', nl.length, c', width t⟩, he, rfl, hsr _ rfl, hM, hpk _ ?_, hlat⟩
   rw [look_setO, if_pos rfl]
  ·subst e1
   have hpush := heap_pushed (a := B.w.heap) (c := w'.heap) hsz2 (fun k hk => hold k (by omega) hk) hb'
   have hlat := later_new (E := B) (keep := keep) (m := ⟨some B.w.heap.size, o', nl.length, c', width t⟩) hpush hq hm
   have hM := mems_new (E := B) (keep := keep) (m := ⟨some B.w.heap.size, o', nl.length, c', width t⟩) (oc := .arr t nl) hpush hq hm (fun b hb => (Option.some.inj hb).symm) (hor _ rfl hlat)
   refine ⟨_, _, _, _, B.new w' ⟨some B.w.heap.size, o', nl.length, c', width t⟩, he, rfl, hsr _ rfl, hM, hpk _ ?_, hlat⟩
   rw [look_setO, if_pos rfl]
 obtain ⟨_, g0⟩ := s0
 have h0len : (B.M 0).len = l.length := o0.1
 cases hbk : (B.M 0).blk with
 | none =>
  rw [hbk] at g0
  obtain ⟨e0, _, _⟩ := g0
  have e0 : v0 = .slice none 0 0 := by simpa using e0
  subst e0
  have hl0 : l = [] := by have := o0.2.2; rw [hbk] at this; exact this
  subst hl0
  have hk0 : k = 0 := by have : (k : Int) ≤ (([] : List (den t)).length : Int) := c2; simp at this; omega
  subst hk0
  refine (ins_end_grow (S := []) (sb := none) (n := 0) (c := 0) L c3 (by omega) hby (by simpa using c4) hzl (Nat.le_refl _) (by simp) (.inl rfl) (fun _ => rfl) q1 hvfit hv1 none).mono ?_
  intro e w' hp
  exact fin (ob := none) (S := []) ⟨rfl, by simp, fun i h => absurd h (Nat.not_lt_zero _)⟩ (fun b h => nomatch h) e w' (by simpa using hp)
 | some b =>
  rw [hbk] at g0
  obtain ⟨cur, ee, f1, f2, f3, f4⟩ := own_seg o0 hbk
  obtain ⟨o, c, e0, d1, d2, d3⟩ := g0
  have e0 : v0 = .slice (some ⟨b, o, none⟩) l.length c := by simpa [rLen, h0len] using e0
  subst e0
  have d1 : l.length ≤ c := by simpa [rLen, h0len] using d1
  have hne : vb ≠ b := fun e => by have := hm.inj 1 0 _ _ b l1 l0 (by rw [hvb, e]) hbk; omega
  rcases Nat.eq_zero_or_pos c with hc0 | hc0
  ·subst hc0
   have hl0 : l = [] := List.length_eq_zero_iff.1 (by omega)
   subst hl0
   have hk0 : k = 0 := by have : (k : Int) ≤ (([] : List (den t)).length : Int) := c2; simp at this; omega
   subst hk0
   refine (ins_end_grow (S := []) (sb := some ⟨b, o, none⟩) (n := 0) (c := 0) L c3 (by omega) hby (by simpa using c4) hzl (Nat.le_refl _) (by simp) (.inl rfl) (fun h => nomatch h) q1 hvfit hv1 none).mono ?_
   intro e w' hp
   exact fin (ob := none) (S := []) ⟨rfl, by simp, fun i h => absurd h (Nat.not_lt_zero _)⟩ (fun b h => nomatch h) e w' (by simpa using hp)
  ·obtain ⟨d4, d5⟩ := d3.resolve_left (by omega)
   have d4 : o = (B.M 0).base := by simpa [rOff] using d4
   have d5 : c ≤ (B.M 0).cap := by simpa [rOff] using d5
   subst d4
   have hmc : c * width t ≤ (B.M 0).cap * width t := Nat.mul_le_mul_right _ d5
   have hml : l.length * width t ≤ c * width t := Nat.mul_le_mul_right _ d1
   have hfit : (B.M 0).base + c * inf.size ≤ cur.size := by rw [hw]; omega
   have h1c : ∀ u ∈ (cur.toList.drop (B.M 0).base).take (l.length * inf.size), u.oneCell' = true := by rw [hw]; exact TRep.one f4
   have f4' : TRep B (.arr l.length t) l ((cur.toList.drop (B.M 0).base).take (l.length * inf.size)) := by rw [hw]; exact f4
   have h63 : l.length + v.length ≤ 9223372036854775807 := by
    have := Nat.le_mul_of_pos_right (l.length + v.length) hby
    omega
   by_cases hkn : k = l.length
   ·subst hkn
    by_cases hroom : l.length + v.length ≤ c
    ·exact (ins_end_room L c3 hroom hby c4 f1 hfit q1 hvfit hv1).mono (fin (ob := some b) f4' (fun b' h => by cases h; exact hbk))
    ·refine (ins_end_grow (S := (cur.toList.drop (B.M 0).base).take (l.length * inf.size)) (sb := some ⟨b, (B.M 0).base, none⟩) L c3 (by omega) hby c4 hzl d1 (by rw [hw]; exact f4.2.1) (.inr ⟨b, _, rfl, at_row f1⟩) (fun h => nomatch h) q1 hvfit hv1 none).mono (fin (ob := none) f4' (fun b' h => nomatch h))
   ·have hlt : k < l.length := by omega
    by_cases hroom : l.length + v.length ≤ c
    ·exact (ins_shift L hlt c3 hroom h63 hne f1 hfit q1 hvfit h1c hv1).mono (fin (ob := some b) f4' (fun b' h => by cases h; exact hbk))
    ·exact (ins_grow L hlt c3 (by omega) d1 hby c4 hzl f1 (by rw [hw]; omega) q1 hvfit h1c hv1 none).mono (fin (ob := none) f4' (fun b' h => nomatch h))
theorem sized {P : Program} {T : Tab} (hT : TabOK P T) {t : TypeId} (h : (tget t T).map (·.size) = some 1) : ∀ w, (Go.sizeOf t).run P w = .ok 1 w := fun w => by
 obtain ⟨i, hi, hs⟩ := Option.map_eq_some_iff.1 h
 obtain ⟨inf, h1, h2, _⟩ := (hT _ _ hi).info
 rw [run_size h1, h2, hs]
theorem ins_mk {P : Program} {T : Tab} (hT : TabOK P T) (mixed : P.follows .mixedOrders = true) {f fO fR tS tE : Nat} {nm : String} {F FO : Func} (hf : P.funcs[f]? = some F) (hF : F = insF nm tS tE fO fR) (hname : (nm == "runtime.NumGoroutine") = false)
  (hO : P.funcs[fO]? = some FO) (hOn : (FO.name == "runtime.NumGoroutine") = false) (hOb : FO.body.isNone = true) (hOx : Extern.findNext FO = none) (hOe : Extern.find FO = some (Extern.SlicesOverlaps.overlaps #[tS, tS] #[4]))
  {t : Ty} {bytes : Nat} (hel : elTy T tS = some (t, bytes)) (htd : tdOf T tS = some (.sl tE)) (h3 : tdOf T 3 = some (.int .i64)) (h4 : tdOf T 4 = some .bool) (s3 : (tget 3 T).map (·.size) = some 1) (s4 : (tget 4 T).map (·.size) = some 1) (sS : (tget tS T).map (·.size) = some 1)
  (hwd : Nat.blt 0 (width t) = true) : Contract P f [(false, .own t), (false, .int .i64), (false, .own t)] [(false, .own t)] fun x => insT bytes x.1 x.2.1 x.2.2 := by
 obtain ⟨e, inf, z, u1, u2, u3, u4, u5, u6, u7, u8⟩ := elTy_inv hT hel
 obtain ⟨d, v1, v2⟩ := tab_td hT htd
 have v2 : d = .slice tE := v2
 subst v2
 have e1 : e = tE := by rw [u1] at v1; simpa using v1
 subst e1
 obtain ⟨d3, w1, w2⟩ := tab_td hT h3
 have w2 : d3 = .int .i64 := w2
 subst w2
 obtain ⟨d4, x1, x2⟩ := tab_td hT h4
 have x2 : d4 = .bool := x2
 subst x2
 have hw0 : 0 < width t := by simpa using hwd
 have hz := TRep.length (u8 { w := { heap := #[], os := default, output := default, tape := fun _ _ => 0, drawn := 0 }, ro := fun _ => True, M := fun _ => ⟨none, 0, 0, 0, 0⟩, N := 0 })
 subst hF
 rw [← u4]
 refine ins_contract (inf := inf) (z := z) ⟨mixed, ⟨nm, fR, hf⟩, fun args w => run_callFunc_extern hO hOn hOb hOx hOe args w, w1, fun w => run_isAgg w1, sized hT s3, x1, fun w => run_isAgg x1, sized hT s4, u1, fun w => run_isAgg u1, sized hT sS, u2, u5, by rw [u3]; exact hw0⟩ hf hname rfl u6 u3 (by rw [u4]; exact u7) ?_
 rw [u3, ← hz, Array.length_toList]
end Go.Rx
namespace Go.Rx
open Go.RowKit Go.Proofs
variable [Inhabited GW]
theorem insH_rep {E : Env} {t : Ty} {l : List (den t)} {S us : List Value} {k : Nat} {cs : List AV} (hS : TRep E (.arr l.length t) l S) (hk : k ≤ l.length) (hc : CRepL E cs us) (hu : us.length = width t) :
  HRep E t (l.take k ++ (dflt t :: l.drop k)) k cs (insC S us (k * width t)) := by
 obtain ⟨_, e2, r⟩ := hS
 have hkw : k * width t ≤ l.length * width t := Nat.mul_le_mul_right _ hk
 have htl : (S.take (k * width t)).length = k * width t := by rw [List.length_take]; omega
 have hll : (l.take k ++ (dflt t :: l.drop k)).length = l.length + 1 := by simp only [List.length_append, List.length_take, List.length_cons, List.length_drop]; omega
 have htk : (l.take k).length = k := by rw [List.length_take]; omega
 unfold insC
 refine ⟨?_, by rw [hll]; omega, fun i hi hik => ?_, us, hc, hu, fun j v hj => ?_⟩
 ·rw [hll, Nat.add_mul]
  simp only [List.length_append, List.length_take, List.length_drop]; omega
 ·rw [hll] at hi
  rcases Nat.lt_or_gt_of_ne hik with h | h
  ·obtain ⟨cs', r1, r2⟩ := r i (by omega)
   refine ⟨cs', ?_, fun j v hj => ?_⟩
   ·rw [List.getElem_append_left (by rw [htk]; exact h), List.getElem_take]; exact r1
   ·have hjl : j < width t := by rw [← TRep.length r1]; exact (List.getElem?_eq_some_iff.1 hj).1
    have : i * width t + width t ≤ k * width t := by rw [← Nat.succ_mul]; exact Nat.mul_le_mul_right _ h
    rw [List.getElem?_append_left (by rw [htl]; omega), List.getElem?_take_of_lt (by omega)]
    exact r2 j v hj
  ·obtain ⟨q, rfl⟩ : ∃ q, i = q + 1 := ⟨i - 1, by omega⟩
   obtain ⟨cs', r1, r2⟩ := r q (by omega)
   refine ⟨cs', ?_, fun j v hj => ?_⟩
   ·rw [List.getElem_append_right (by rw [htk]; omega)]
    have e : q + 1 - (l.take k).length = (q - k) + 1 := by rw [htk]; omega
    simp only [e, List.getElem_cons_succ, List.getElem_drop]
    have e2 : k + (q - k) = q := by omega
    simp only [e2]; exact r1
   ·have : k * width t ≤ q * width t := Nat.mul_le_mul_right _ (by omega)
    rw [Nat.add_mul, Nat.one_mul, List.getElem?_append_right (by rw [htl]; omega), htl, List.getElem?_append_right (by omega), List.getElem?_drop, ← r2 j v hj]
    congr 1; omega
 ·have hjl : j < us.length := (List.getElem?_eq_some_iff.1 hj).1
  rw [List.getElem?_append_right (by rw [htl]; omega), htl, Nat.add_sub_cancel_left, List.getElem?_append_left hjl]
  exact hj
theorem insH_ok {P : Program} {f fO tS tE : Nat} {inf : TypeInfo} {z : Value} (L : InsOK P f fO tS tE inf z) {t : Ty} (hw : inf.size = width t) (hby : 0 < inf.bytes) (hzl : z.cells.size = inf.size) : InsHOK P f t inf.bytes := by
 intro keep B objs a b k l m y g cs far vals hm ha hbl hm1 hr c1 c2 c4
 subst hm1
 have c4 : (l.length + 1) * inf.bytes ≤ 140737488355328 := by simpa [room] using c4
 obtain ⟨k, rfl⟩ : ∃ q : Nat, k = (q : Int) := ⟨k.toNat, (Int.toNat_of_nonneg c1).symm⟩
 rw [Int.toNat_natCast]
 have hkl : k ≤ l.length := by omega
 obtain ⟨v0, r0, rfl, s0, vi, r1, rfl, si, v2, r2, rfl, s2, s3⟩ := hr
 have s3 : r2 = [] := s3
 subst s3
 have si : CRep B (.int .i64 (k : Int)) [vi] := si
 have si : vi = .int .i64 (k : Int) := by simpa [CRep] using si
 subst si
 have s0 : CRep B (.oref a none) [v0] := s0
 have s2 : CRep B (.oref b none) [v2] := s2
 have o0 := (hm.rep _ _ ha).2
 have hab : a ≠ b := fun e => by rw [e, hbl] at ha; cases ha
 have hWp : 0 < width t := by rw [← hw]; exact L.wE
 obtain ⟨h1len, h1wd, vb, vcur, ve, hvb, q1, q2, q3, ⟨hsl, hg, _, us, hus, hul, huj⟩, _⟩ := hol_seg (hm.rep _ _ hbl).2
 have h1len : (B.M b).len = 1 := h1len
 have hg0 : g = 0 := by have : g < 1 := hg; omega
 subst hg0
 obtain ⟨_, g1⟩ := s2
 rw [hvb] at g1
 obtain ⟨vo, vc, e2, p1, p2, p3⟩ := g1
 have e2 : v2 = .slice (some ⟨vb, vo, none⟩) 1 vc := by simpa [rLen, h1len] using e2
 subst e2
 have p1 : 1 ≤ vc := by simpa [rLen, h1len] using p1
 have hvo : vo = (B.M b).base := by
  rcases p3 with p3 | p3
  ·omega
  ·simpa [rOff] using p3.1
 subst hvo
 have hmul : 1 * width t ≤ (B.M b).cap * width t := Nat.mul_le_mul_right _ q2
 have hV : (vcur.toList.drop (B.M b).base).take (1 * inf.size) = us := by
  rw [hw]
  have hsl : ((vcur.toList.drop (B.M b).base).take (1 * width t)).length = 1 * width t := hsl
  apply List.ext_getElem?
  intro j
  by_cases hj : j < us.length
  ·rw [List.getElem?_eq_getElem hj]
   have := huj j _ (List.getElem?_eq_getElem hj)
   rw [Nat.zero_mul, Nat.zero_add] at this
   exact this
  ·rw [List.getElem?_eq_none (by omega), List.getElem?_eq_none (by omega)]
 have hv1 : ∀ u ∈ (vcur.toList.drop (B.M b).base).take (1 * inf.size), u.oneCell' = true := by rw [hV]; exact CRepL.one hus
 have hvfit : (B.M b).base + 1 * inf.size ≤ vcur.size := by rw [hw]; omega
 have hmd : Mems B keep (dropO b objs) := mems_drop hm
 have fin : ∀ {ob : Option Nat} {S : List Value}, TRep B (.arr l.length t) l S → (∀ b, ob = some b → (B.M a).blk = some b) → ∀ e w', InsPost B.w ob l.length 1 inf.size (insC S ((vcur.toList.drop (B.M b).base).take (1 * inf.size)) (k * inf.size)) e w' →
   ∃ v E', e = .returned v ∧ E'.w = w' ∧ Later keep B E' ∧ Mems E' keep (setO B.N (.hol t (l.take k ++ (dflt t :: l.drop k)) k cs false) (dropO b (dropO a objs))) ∧ E'.N = B.N + 1 ∧ SRep E' (.oref B.N none) v := by
  intro ob S hS hob e w' ⟨b', o', c', cur', ee', he, hc', hq, hsz, hb', hfit', hres, hold, hcase⟩
  rw [hV] at hres
  rw [hw] at hres hfit'
  have hnl : (l.take k ++ (dflt t :: l.drop k)).length = l.length + 1 := by simp only [List.length_append, List.length_take, List.length_cons, List.length_drop]; omega
  have hor : ∀ E : Env, E.w = w' → Later keep B E → ORep E ⟨some b', o', l.length + 1, c', width t⟩ (.hol t (l.take k ++ (dflt t :: l.drop k)) k cs false) := fun E hE hlat => by
   refine ⟨hnl.symm, rfl, b', cur', ee', rfl, by rw [hE]; exact hb', by rw [hnl]; exact hc', hfit', ?_⟩
   rw [hnl]
   show HRep E t _ k cs ((cur'.toList.drop o').take ((l.length + 1) * width t))
   rw [hres]
   exact HRep.later hlat (insH_rep hS hkl hus hul)
  have hsr : ∀ E : Env, E = B.new w' ⟨some b', o', l.length + 1, c', width t⟩ → SRep E (.oref B.N none) (.slice (some ⟨b', o', none⟩) (l.length + 1) c') := by
   rintro E rfl
   exact oref_new (E := B) (w := w') (m := ⟨some b', o', l.length + 1, c', width t⟩) rfl hc'
  rcases hcase with ⟨e1, hsz2⟩ | ⟨e1, hsz2⟩
  ·have hbk := hob b' e1
   have hho : ∀ k, k ≠ b' → w'.heap[k]? = B.w.heap[k]? := fun k hk => by
    rcases Nat.lt_or_ge k B.w.heap.size with h | h
    ·exact hold k hk h
    ·rw [Array.getElem?_eq_none (by omega), Array.getElem?_eq_none (by omega)]
   have had : look a (dropO b objs) = some (.arr t l) := by rw [look_dropO, if_neg hab]; exact ha
   obtain ⟨hlat, hM⟩ := mems_renew (E := B) (keep := keep) (w := w') (m := ⟨some b', o', l.length + 1, c', width t⟩) (j := a) (b := b') (oc' := .hol t (l.take k ++ (dflt t :: l.drop k)) k cs false) hq hsz2 hho hmd had hbk rfl (fun hlat => hor _ rfl hlat)
   refine ⟨_, B.new w' ⟨some b', o', l.length + 1, c', width t⟩, he, rfl, hlat, mems_less' hM fun j oc hj => ?_, rfl, hsr _ rfl⟩
   rw [look_setO] at hj ⊢
   by_cases e : j = B.N
   ·rw [if_pos e] at hj ⊢; exact hj
   ·rw [if_neg e] at hj ⊢
    rw [look_dropO, look_dropO] at hj ⊢
    by_cases ea : j = a <;> by_cases eb : j = b <;> simp [ea, eb] at hj ⊢ <;> exact hj
  ·subst e1
   have hpush := heap_pushed (a := B.w.heap) (c := w'.heap) hsz2 (fun k hk => hold k (by omega) hk) hb'
   have hlat := later_new (E := B) (keep := keep) (m := ⟨some B.w.heap.size, o', l.length + 1, c', width t⟩) hpush hq hm
   have hM := mems_new (E := B) (keep := keep) (m := ⟨some B.w.heap.size, o', l.length + 1, c', width t⟩) (oc := .hol t (l.take k ++ (dflt t :: l.drop k)) k cs false) hpush hq (mems_drop (id := b) (mems_drop (id := a) hm)) (fun b hb => (Option.some.inj hb).symm) (hor _ rfl hlat)
   exact ⟨_, B.new w' ⟨some B.w.heap.size, o', l.length + 1, c', width t⟩, he, rfl, hlat, hM, rfl, hsr _ rfl⟩
 obtain ⟨_, g0⟩ := s0
 have h0len : (B.M a).len = l.length := o0.1
 cases hbk : (B.M a).blk with
 | none =>
  rw [hbk] at g0
  obtain ⟨e0, _, _⟩ := g0
  have e0 : v0 = .slice none 0 0 := by simpa using e0
  subst e0
  have hl0 : l = [] := by have := o0.2.2; rw [hbk] at this; exact this
  subst hl0
  have hk0 : k = 0 := by simpa using hkl
  subst hk0
  refine (ins_end_grow (S := []) (sb := none) (n := 0) (c := 0) L Nat.zero_lt_one (by omega) hby (by simpa using c4) hzl (Nat.le_refl _) (by simp) (.inl rfl) (fun _ => rfl) q1 hvfit hv1 none).mono ?_
  intro e w' hp
  exact fin (ob := none) (S := []) ⟨rfl, by simp, fun i h => absurd h (Nat.not_lt_zero _)⟩ (fun b h => nomatch h) e w' (by simpa using hp)
 | some b0 =>
  rw [hbk] at g0
  obtain ⟨cur, ee, f1, f2, f3, f4⟩ := own_seg o0 hbk
  obtain ⟨o, c, e0, d1, d2, d3⟩ := g0
  have e0 : v0 = .slice (some ⟨b0, o, none⟩) l.length c := by simpa [rLen, h0len] using e0
  subst e0
  have d1 : l.length ≤ c := by simpa [rLen, h0len] using d1
  have hne : vb ≠ b0 := fun e => hab (hm.inj a b _ _ b0 ha hbl hbk (by rw [hvb, e]))
  rcases Nat.eq_zero_or_pos c with hc0 | hc0
  ·subst hc0
   have hl0 : l = [] := List.length_eq_zero_iff.1 (by omega)
   subst hl0
   have hk0 : k = 0 := by simpa using hkl
   subst hk0
   refine (ins_end_grow (S := []) (sb := some ⟨b0, o, none⟩) (n := 0) (c := 0) L Nat.zero_lt_one (by omega) hby (by simpa using c4) hzl (Nat.le_refl _) (by simp) (.inl rfl) (fun h => nomatch h) q1 hvfit hv1 none).mono ?_
   intro e w' hp
   exact fin (ob := none) (S := []) ⟨rfl, by simp, fun i h => absurd h (Nat.not_lt_zero _)⟩ (fun b h => nomatch h) e w' (by simpa using hp)
  ·obtain ⟨d4, d5⟩ := d3.resolve_left (by omega)
   have d4 : o = (B.M a).base := by simpa [rOff] using d4
   have d5 : c ≤ (B.M a).cap := by simpa [rOff] using d5
   subst d4
   have hmc : c * width t ≤ (B.M a).cap * width t := Nat.mul_le_mul_right _ d5
   have hml : l.length * width t ≤ c * width t := Nat.mul_le_mul_right _ d1
   have hfit : (B.M a).base + c * inf.size ≤ cur.size := by rw [hw]; omega
   have h1c : ∀ u ∈ (cur.toList.drop (B.M a).base).take (l.length * inf.size), u.oneCell' = true := by rw [hw]; exact TRep.one f4
   have f4' : TRep B (.arr l.length t) l ((cur.toList.drop (B.M a).base).take (l.length * inf.size)) := by rw [hw]; exact f4
   have h63 : l.length + 1 ≤ 9223372036854775807 := by
    have := Nat.le_mul_of_pos_right (l.length + 1) hby
    omega
   by_cases hkn : k = l.length
   ·subst hkn
    by_cases hroom : l.length + 1 ≤ c
    ·exact (ins_end_room L Nat.zero_lt_one hroom hby c4 f1 hfit q1 hvfit hv1).mono (fin (ob := some b0) f4' (fun b' h => by cases h; exact hbk))
    ·refine (ins_end_grow (S := (cur.toList.drop (B.M a).base).take (l.length * inf.size)) (sb := some ⟨b0, (B.M a).base, none⟩) L Nat.zero_lt_one (by omega) hby c4 hzl d1 (by rw [hw]; exact f4.2.1) (.inr ⟨b0, _, rfl, at_row f1⟩) (fun h => nomatch h) q1 hvfit hv1 none).mono (fin (ob := none) f4' (fun b' h => nomatch h))
   ·have hlt : k < l.length := by omega
    by_cases hroom : l.length + 1 ≤ c
    ·exact (ins_shift L hlt Nat.zero_lt_one hroom h63 hne f1 hfit q1 hvfit h1c hv1).mono (fin (ob := some b0) f4' (fun b' h => by cases h; exact hbk))
    ·exact (ins_grow L hlt Nat.zero_lt_one (by omega) d1 hby c4 hzl f1 (by rw [hw]; omega) q1 hvfit h1c hv1 none).mono (fin (ob := none) f4' (fun b' h => nomatch h))
theorem insH_mk {P : Program} {T : Tab} (hT : TabOK P T) (mixed : P.follows .mixedOrders = true) {f fO fR tS tE : Nat} {nm : String} {F FO : Func} (hf : P.funcs[f]? = some F) (hF : F = insF nm tS tE fO fR) (hname : (nm == "runtime.NumGoroutine") = false)
  (hO : P.funcs[fO]? = some FO) (hOn : (FO.name == "runtime.NumGoroutine") = false) (hOb : FO.body.isNone = true) (hOx : Extern.findNext FO = none) (hOe : Extern.find FO = some (Extern.SlicesOverlaps.overlaps #[tS, tS] #[4]))
  {t : Ty} {bytes : Nat} (hel : elTy T tS = some (t, bytes)) (htd : tdOf T tS = some (.sl tE)) (h3 : tdOf T 3 = some (.int .i64)) (h4 : tdOf T 4 = some .bool) (s3 : (tget 3 T).map (·.size) = some 1) (s4 : (tget 4 T).map (·.size) = some 1) (sS : (tget tS T).map (·.size) = some 1)
  (hwd : Nat.blt 0 (width t) = true) : HasBody P f ∧ InsHOK P f t bytes := by
 obtain ⟨e, inf, z, u1, u2, u3, u4, u5, u6, u7, u8⟩ := elTy_inv hT hel
 obtain ⟨d, v1, v2⟩ := tab_td hT htd
 have v2 : d = .slice tE := v2
 subst v2
 have e1 : e = tE := by rw [u1] at v1; simpa using v1
 subst e1
 obtain ⟨d3, w1, w2⟩ := tab_td hT h3
 have w2 : d3 = .int .i64 := w2
 subst w2
 obtain ⟨d4, x1, x2⟩ := tab_td hT h4
 have x2 : d4 = .bool := x2
 subst x2
 have hw0 : 0 < width t := by simpa using hwd
 have hz := TRep.length (u8 { w := { heap := #[], os := default, output := default, tape := fun _ _ => 0, drawn := 0 }, ro := fun _ => True, M := fun _ => ⟨none, 0, 0, 0, 0⟩, N := 0 })
 subst hF
 rw [← u4]
 refine ⟨⟨_, hf, hname, rfl⟩, insH_ok (inf := inf) (z := z) ⟨mixed, ⟨nm, fR, hf⟩, fun args w => run_callFunc_extern hO hOn hOb hOx hOe args w, w1, fun w => run_isAgg w1, sized hT s3, x1, fun w => run_isAgg x1, sized hT s4, u1, fun w => run_isAgg u1, sized hT sS, u2, u5, by rw [u3]; exact hw0⟩ u3 (by rw [u4]; exact u7) ?_⟩
 rw [u3, ← hz, Array.length_toList]
end Go.Rx
namespace Go.Rx
open Go.RowKit Go.Proofs
variable [Inhabited GW]
end Go.Rx
namespace Go.Rx
variable [Inhabited GW]
variable {H : Type}
def undatP : List (DataW H) → DataW H
 | [d] => d
 | l => .agg l
def undat : (t : Ty) → DataW H → Option (den t)
 | .int k, d => match d with
  | .lit (.int k' n) => if k = k' then some n else none
  | _ => none
 | .bool, d => match d with
  | .lit (.bool b) => some b
  | _ => none
 | .str, d => match d with
  | .lit (.string bs) => some ⟨bs.toArray⟩
  | _ => none
 | .arr n t, d => match d with
  | .agg ds => if ds.length = n then ds.mapM (undat t) else none
  | _ => none
 | .pair a b, d => match d with
  | .agg (d1 :: r) => (undat a d1).bind fun x => (undat b (undatP r)).bind fun y => some (x, y)
  | _ => none
 | .unit, d => match d with
  | .agg [] => some ()
  | _ => none
 | _, _ => none
def readsFl (P : Program) : Nat → TypeId → Ty → Bool
 | 0, _, _ => false
 | n + 1, t, ty => match P.underlying t with
  | some .bool => (match ty with
   | .bool => true
   | _ => false)
  | some (.int k) => (match ty with
   | .int k' => decide (k = k')
   | _ => false)
  | some .string => (match ty with
   | .str => true
   | _ => false)
  | some (.array m e) => (match ty with
   | .arr m' t' => Nat.beq m m' && readsFl P n e t' && Nat.beq (P.cellsOf e) (width t') && Nat.beq (P.cellsOf t) (m * width t')
   | _ => false)
  | some (.struct fs) => readsF P (readsFl P n) fs.toList 0 ty && Nat.beq (P.cellsOf t) (width ty) && Nat.blt 1 fs.toList.length
  | _ => false
section
variable {enc : TypeId × Value → H} {P : Program} {E : Env} {base : Nat} {spare : Nat → Bool} {held : Bool}
theorem fields_flat {fuel : Nat} {r : TypeId → Ty → Bool} {cs : List Value}
  (ih : ∀ {t : TypeId} {ty : Ty} {vs : List Value} {d : DataW H × List MemPlace}, r t ty = true → DataW.trod enc P E.w base spare held fuel t vs = some d → ∀ x, undat ty d.1 = some x → TRep E ty x vs) :
  ∀ (fs : List Field) (off : Nat) (ty : Ty) (ds : List (DataW H × List MemPlace)), readsF P r fs off ty = true → ds.length = fs.length →
   (∀ (i : Nat) (f : Field), fs[i]? = some f → DataW.trod enc P E.w base spare held fuel f.type ((cs.drop f.offset).take (P.cellsOf f.type)) = ds[i]?) →
   cs.length = off + width ty → ∀ x, undat ty (undatP (ds.map (·.1))) = some x → TRep E ty x (cs.drop off)
 | [], off, ty, ds, h, hl, _, hc, x, hx => by
  cases ty with
  | unit =>
   show cs.drop off = []
   exact List.drop_eq_nil_of_le (by rw [hc]; exact Nat.le_refl _)
  | _ => cases h
 | [f], off, ty, ds, h, hl, hf, hc, x, hx => by
  simp only [readsF, Bool.and_eq_true] at h
  obtain ⟨⟨h1, h2⟩, h3⟩ := h
  match ds, hl with
  | [d], _ =>
   have hy := hf 0 f rfl
   rw [Nat.eq_of_beq_eq_true h1, Nat.eq_of_beq_eq_true h3, List.take_of_length_le (by rw [List.length_drop, hc]; omega)] at hy
   exact ih h2 hy x hx
 | f :: g :: l, off, ty, ds, h, hl, hf, hc, x, hx => by
  cases ty with
  | pair a b =>
   simp only [readsF, Bool.and_eq_true] at h
   obtain ⟨⟨⟨h1, h2⟩, h3⟩, h4⟩ := h
   match ds, hl with
   | d :: d' :: r, hl =>
    have hy := hf 0 f rfl
    rw [Nat.eq_of_beq_eq_true h1, Nat.eq_of_beq_eq_true h3] at hy
    have hx : ((undat a d.1).bind fun x => (undat b (undatP ((d' :: r).map (·.1)))).bind fun y => some (x, y)) = some x := hx
    rw [Option.bind_eq_some_iff] at hx
    obtain ⟨u, hu, hx⟩ := hx
    rw [Option.bind_eq_some_iff] at hx
    obtain ⟨v, hv, hx⟩ := hx
    cases hx
    have hz := fields_flat ih (g :: l) (off + width a) b (d' :: r) h4 (by simpa using hl) (fun i f' hf' => by simpa using hf (i + 1) f' (by simpa using hf')) (by rw [hc]; simp only [width]; omega) v hv
    refine ⟨(cs.drop off).take (width a), cs.drop (off + width a), ?_, ih h2 hy u hu, hz⟩
    rw [← List.drop_drop, List.take_append_drop]
  | _ => cases h
theorem flat_rep : ∀ (n fuel : Nat) {t : TypeId} {ty : Ty} {cs : List Value} {d : DataW H × List MemPlace}, readsFl P n t ty = true → DataW.trod enc P E.w base spare held fuel t cs = some d →
  ∀ x, undat ty d.1 = some x → TRep E ty x cs
 | 0, _, _, _, _, _, h, _, _, _ => nomatch h
 | n + 1, fuel, t, ty, cs, d, h, hd, x, hx => by
  unfold readsFl at h
  split at h
  ·rename_i hu
   obtain ⟨b, rfl, rfl⟩ := DataW.trod_bool hu hd
   cases ty with
   | bool => cases hx; rfl
   | _ => cases h
  ·rename_i k hu
   obtain ⟨m, rfl, rfl, hw⟩ := DataW.trod_int hu hd
   cases ty with
   | int k' =>
    have hk : k = k' := of_decide_eq_true h
    subst hk
    have hx : (if k = k then some m else none) = some x := hx
    rw [if_pos rfl] at hx
    cases hx; rfl
   | _ => cases h
  ·rename_i hu
   obtain ⟨s, rfl, rfl, hs⟩ := DataW.trod_string hu hd
   cases ty with
   | str =>
    have hx : some (⟨s.data.toList.toArray⟩ : ByteArray) = some x := hx
    cases hx
    show _ = _
    simp
   | _ => cases h
  ·rename_i m e hu
   cases ty with
   | arr m' t' =>
    simp only [Bool.and_eq_true] at h
    obtain ⟨⟨⟨h0, h1⟩, h2⟩, h3⟩ := h
    have h0 := Nat.eq_of_beq_eq_true h0
    have h2 := Nat.eq_of_beq_eq_true h2
    have h3 := Nat.eq_of_beq_eq_true h3
    subst h0
    obtain ⟨xs, f, _, rfl, hlen, hxs, hget⟩ := DataW.trod_array hu hd
    rw [h2] at hget
    have hx : (if (xs.map (·.1)).length = m then (xs.map (·.1)).mapM (undat t') else none) = some x := hx
    rw [if_pos (by rw [List.length_map, hxs])] at hx
    obtain ⟨hl, hp⟩ := mapM_opt hx
    rw [List.length_map, hxs] at hl
    refine ⟨hl, by rw [hlen, h3], fun i hi => ?_⟩
    have him : i < m := by omega
    have hg := hget i him
    have hlt : i < xs.length := by omega
    rw [List.getElem?_eq_getElem hlt] at hg
    obtain ⟨y, hy, hy2⟩ := hp i (xs[i].1) (by rw [List.getElem?_map, List.getElem?_eq_getElem hlt]; rfl)
    rw [List.getElem?_eq_getElem hi] at hy2
    cases hy2
    refine ⟨_, flat_rep n f h1 hg _ hy, fun j v hj => ?_⟩
    rw [List.getElem?_take] at hj
    split at hj
    ·rwa [List.getElem?_drop] at hj
    ·cases hj
   | _ => cases h
  ·rename_i fs hu
   simp only [Bool.and_eq_true] at h
   obtain ⟨⟨h1, h2⟩, h3⟩ := h
   have h3 : 1 < fs.toList.length := by simpa [Nat.blt_eq] using h3
   obtain ⟨xs, f, _, rfl, hlen, hxs, hget⟩ := DataW.trod_struct hu hd
   have hxl : xs.length = fs.toList.length := by rw [hxs]; simp
   have hP : undatP (xs.map (·.1)) = .agg (xs.map (·.1)) := by
    match xs, hxl with
    | [], e => rw [← e] at h3; cases h3
    | [_], e => rw [← e] at h3; simp at h3
    | _ :: _ :: _, _ => rfl
   have := fields_flat (enc := enc) (P := P) (E := E) (base := base) (spare := spare) (held := held) (fuel := f) (cs := cs) (fun {t ty vs d} h3 h4 => flat_rep n f h3 h4) fs.toList 0 ty xs h1 hxl (fun i fl hfl => hget i fl (by simpa using hfl)) (by rw [hlen, Nat.zero_add]; exact Nat.eq_of_beq_eq_true h2) x (by rw [hP]; exact hx)
   simpa using this
  ·cases h
end
structure GVar where
 name : String
 g : Nat
 t : TypeId
 ty : Ty
 x : den ty
def GVar.fits (P : Program) (v : GVar) : Prop :=
 P.globalNamed v.name = some v.g ∧ (P.globals[v.g]?).map (·.type) = some v.t ∧ v.ty.flat = true ∧ 0 < width v.ty ∧ readsFl P 4 v.t v.ty = true
abbrev startE (W : World) : Env := { w := W, ro := fun b => b < W.heap.size, M := fun _ => ⟨none, 0, 0, 0, 0⟩, N := 0 }
theorem laid_vars {P : Program} {W : World} : ∀ {l : List (GVar × DataW Unit)} {ps : List MemPlace}, DataW.LaidVars P W (l.map fun e => (e.1.name, e.2)) ps → (∀ e ∈ l, e.1.fits P ∧ undat e.1.ty e.2 = some e.1.x) →
  ∀ e ∈ l, e.1.ty.flat = true ∧ e.1.g < W.heap.size ∧ ∃ cs et fz, W.heap[e.1.g]? = some (.cells cs et fz) ∧ TRep (startE W) e.1.ty e.1.x cs.toList
 | [], _, _, _, v, hv => nomatch hv
 | e0 :: l, _, hL, hall, e, hv => by
  obtain ⟨g, t, cs, fuel, p, q, e1, e2, e3, e4, e5, _⟩ := hL
  rcases List.mem_cons.1 hv with rfl | hv
  ·obtain ⟨⟨f1, f2, f3, f4, f5⟩, hu⟩ := hall e List.mem_cons_self
   have e1 : P.globalNamed e.1.name = some g := e1
   rw [f1] at e1; cases e1
   rw [f2] at e2; cases e2
   have hrep := flat_rep (E := startE W) 4 fuel f5 e4 _ hu
   simp only [World.var?, f1, Option.bind_some] at e3
   split at e3
   ·rename_i c ty fz hc
    cases e3
    exact ⟨f3, (Array.getElem?_eq_some_iff.1 hc).1, _, _, _, hc, hrep⟩
   ·cases e3
  ·exact laid_vars e5 (fun e he => hall e (List.mem_cons_of_mem _ he)) e hv
theorem laidE_of {P : Program} {W : World} {l : List (GVar × DataW Unit)} (h : laidMetH P (l.map fun e => (e.1.name, e.2)) W) (hn : (l.map fun e => (e.1.name, e.2)).all (fun x => x.2.handleName?.isNone) = true)
  (hall : ∀ e ∈ l, e.1.fits P ∧ undat e.1.ty e.2 = some e.1.x) (hg : ∀ g t x, gfind g = some ⟨t, x⟩ → ∃ e ∈ l, e.1.g = g ∧ (⟨e.1.ty, e.1.x⟩ : (t : Ty) × den t) = ⟨t, x⟩) : LaidE (startE W) := by
 rw [MakeChecks.laidMetH_plain _ _ _ hn] at h
 obtain ⟨ps, hL, _⟩ := h
 intro g t x hf
 obtain ⟨e, he, rfl, ee⟩ := hg g t x hf
 obtain ⟨h1, h2, h3⟩ := laid_vars hL hall e he
 cases ee
 exact ⟨h1, h2, h3⟩
end Go.Rx
namespace Go.Rx
variable [Inhabited GW]
open Go.RowKit
end Go.Rx
