import Derived.Test.YtghhiloencpimaaGreatX3
import Derived.Laws.Externs
import Derived.Test.YtghhiloencpimaaGreatX1
import Derived.ChangeSame
import Derived.Carry
import Derived.OpenShut
set_option linter.unusedSimpArgs false
set_option linter.unusedVariables false
set_option linter.unusedSectionVars false
namespace Go.Rx
structure o7F (keep : Nat → Prop) (E E' : Env) : Prop where
 out : h3A E.w E'.w
 ro : ∀ b, E.ro b → E'.ro b
 roN : ∀ b, E'.ro b → E.ro b ∨ ¬ keep b
 size : E.w.heap.size ≤ E'.w.heap.size
 heapRo : ∀ b, E.ro b → E'.w.heap[b]? = E.w.heap[b]?
 heapKeep : ∀ b, keep b → E'.w.heap[b]? = E.w.heap[b]?
def l3B (E : Env) (us : List AV) (v : Value) : Prop := ∃ vs : List Value, p0A E us vs ∧ v = (if h : vs.toArray.size = 1 then vs.toArray[0] else .tuple vs.toArray)
theorem l3B.one {E : Env} {us : List AV} {v : Value} (h : l3B E us v) : b0A E (u2C us) v := by
 obtain ⟨vs, hr, e⟩ := h
 subst e
 match us, hr with
 | [], hr => rw [show vs = [] from hr]; exact ⟨[], rfl, rfl⟩
 | [a], hr =>
  obtain ⟨x, r, rfl, r1, r2⟩ := hr
  rw [show r = [] from r2]
  exact r1.toS
 | a :: b :: l, hr =>
  obtain ⟨x, r, rfl, r1, y, r', rfl, r2, r3⟩ := hr
  rw [dif_neg (by simp)]
  exact ⟨_, rfl, x, _, rfl, r1, y, _, rfl, r2, r3⟩
structure a4A (P : Program) (f : FuncId) (ins outs : List (Bool × Ty)) (fn : f5A ins → Option (f5A outs)) : Prop where
 has : ∃ F, P.funcs[f]? = some F ∧ (F.name == "runtime.NumGoroutine") = false ∧ F.body.isNone = false
 ok : ∀ (x : f5A ins) (y : f5A outs), fn x = some y → ∀ (keep : Nat → Prop) (E : Env) (vs : List AV) (vals : List Value) (objs objs' : Objs), b1A E keep objs → e6A E vs vals → m2A ins vs objs = some (x, objs') →
  Calls P f vals.toArray E.w fun e w' => ∃ us v ob ob' E', e = .returned v ∧ E'.w = w' ∧ l3B E' us v ∧ b1A E' (fun b => keep b ∨ h4A E objs' b) ob ∧ m2A outs us ob = some (y, ob') ∧
   o7F (fun b => keep b ∨ h4A E objs' b) E E'
section
variable {P : Program} {T : Tab} (hT : TabOK P T) {keep : Nat → Prop}
theorem e6A.later {E E' : Env} (hL : Later keep E E') : ∀ {l : List AV} {vs : List Value}, e6A E l vs → e6A E' l vs
 | [], _, r => r
 | a :: l, vs, r => by
  obtain ⟨v, s, e, r1, r2⟩ := r
  exact ⟨v, s, e, b0A.later hL r1, e6A.later hL r2⟩
theorem p0A.toS {E : Env} : ∀ {l : List AV} {vs : List Value}, p0A E l vs → e6A E l vs
 | [], _, r => r
 | a :: l, vs, r => by
  obtain ⟨v, s, e, r1, r2⟩ := r
  exact ⟨v, s, e, r1.toS, p0A.toS r2⟩
theorem g7E {n : Nat} : ∀ (l : List (Bool × Ty)) {A B : Env} {oa ob oa' : Objs} {vs : List AV} {vals : List Value} {x : f5A l}, Two n keep A B oa ob → e6A A vs vals → m2A l vs oa = some (x, oa') →
  ∃ A' B', i9A keep A A' ∧ Later keep B B' ∧ Two n keep A' B' oa' (m3A l x ⟨ob, B.N⟩).2.objs ∧ B'.N = (m3A l x ⟨ob, B.N⟩).2.next ∧ p0A B' (m3A l x ⟨ob, B.N⟩).1 vals
 | [], A, B, oa, ob, oa', vs, vals, x, h, hr, hp => by
  cases vs with
  | nil => cases hp; exact ⟨A, B, i9A.refl _ _, Later.refl _ _, h, rfl, hr⟩
  | cons => cases hp
 | [t], A, B, oa, ob, oa', vs, vals, x, h, hr, hp => by
  match vs, hr, hp with
  | [v], hr, hp =>
   obtain ⟨xv, r, rfl, r1, r2⟩ := hr
   obtain ⟨A1, B1, g, L, T1, N1, hs⟩ := f5E h r1 hp
   exact ⟨A1, B1, g, L, T1, N1, xv, r, rfl, hs, r2⟩
 | t :: t' :: l, A, B, oa, ob, oa', vs, vals, x, h, hr, hp => by
  match vs, hr, hp with
  | v :: vs, hr, hp =>
   obtain ⟨xv, r, rfl, r1, r2⟩ := hr
   simp only [m2A] at hp
   split at hp
   ·rename_i y oa1 h1
    split at hp
    ·rename_i ys oa2 h2
     cases hp
     obtain ⟨A1, B1, g1, L1, T1, N1, hs1⟩ := f5E h r1 h1
     obtain ⟨A2, B2, g2, L2, T2, N2, hs2⟩ := g7E (t' :: l) T1 (e6A.later g1.later r2) h2
     rw [N1] at T2 N2 hs2
     exact ⟨A2, B2, g1.trans g2, L1.trans L2, T2, N2, xv, r, rfl, e7A.later L2 hs1, hs2⟩
    ·cases hp
   ·cases hp
def o1D (tmps : Array Value) : ResultVar → Sem Value
 | .tmp t => pure (tmps.getD t undef)
 | .cell p t => do loadVar t (← asAddr (tmps.getD p undef))
include hT
theorem e3H {keep : Nat → Prop} {z : Nat} {S : St} {a : Act} {E : Env} (hR : Rel keep z S a E) (fn : Func) {vs : List AV} (h : x5A S fn.results.toList T = some vs) :
  ∃ v, (results fn a.tmps).run P E.w = .ok v E.w ∧ l3B E vs v := by
 have key : ∀ (l : List ResultVar) (vs : List AV), x5A S l T = some vs → ∃ us : List Value, (l.mapM (o1D a.tmps)).run P E.w = .ok us E.w ∧ p0A E vs us := by
  intro l
  induction l with
  | nil => intro vs h; cases h; exact ⟨[], by simp, rfl⟩
  | cons x l ih =>
   intro vs h
   cases x with
   | tmp t =>
    simp only [x5A] at h
    have hv := d8A hR.slots (.tmp t)
    have hev : ev S (.tmp t) = b9A S.tmps t := rfl
    rw [hev] at hv
    split at h
    ·cases h
    ·rename_i v hnt
     obtain ⟨vs', h1, rfl⟩ := e1A h
     obtain ⟨us, h2, h3⟩ := ih _ h1
     have ht : (b9A S.tmps t).isTup = false := by
      cases hg : b9A S.tmps t <;> first
       | rfl
       | exact absurd hg (hnt _)
     refine ⟨a.tmps.getD t undef :: us, ?_, _, us, rfl, (b0A.iff_V ht).1 hv, h3⟩
     rw [List.mapM_cons, Sem.run_bind]
     simp only [o1D, Sem.run_pure, Result.andThen_ok, Sem.run_bind]
     rw [h2]; rfl
   | cell p t =>
    simp only [x5A] at h
    split at h
    ·rename_i v hl
     obtain ⟨vs', h1, rfl⟩ := e1A h
     obtain ⟨us, h2, h3⟩ := ih _ h1
     have hx := d8A hR.slots (.tmp p)
     have hev : ev S (.tmp p) = b9A S.tmps p := rfl
     rw [hev] at hx
     obtain ⟨y, h4, h5⟩ := h1F hT hR.mems (show (t7C T S t (b9A S.tmps p)).gives v by rw [hl]; rfl) hx
     have h6 : (do loadVar t (← asAddr (a.tmps.getD p undef)) : Sem Value).run P E.w = .ok y E.w := by
      have e : a.eval (.tmp p) = a.tmps.getD p undef := rfl
      rw [e] at h4
      generalize a.tmps.getD p undef = q at h4 ⊢
      cases q <;> first
       | (simp [Instr.loadAt, Instr.sureAddr] at h4; done)
       | skip
      rename_i ad
      cases ad with
      | none => simp [Instr.loadAt, Instr.sureAddr] at h4
      | some ad => simpa [Instr.loadAt, Instr.sureAddr, asAddr] using h4
     refine ⟨y :: us, ?_, _, us, rfl, h5, h3⟩
     rw [List.mapM_cons, Sem.run_bind]
     rw [show o1D a.tmps (.cell p t) = (do loadVar t (← asAddr (a.tmps.getD p undef))) from rfl, h6]
     simp only [Result.andThen_ok, Sem.run_bind]
     rw [h2]; rfl
    ·cases h
 obtain ⟨us, h1, h2⟩ := key _ _ h
 refine ⟨_, ?_, us, h2, rfl⟩
 show (fn.results.mapM (o1D a.tmps) >>= fun vs => (pure (if h : vs.size = 1 then vs[0] else .tuple vs) : Sem Value)).run P E.w = _
 rw [Sem.run_bind, Array.mapM_eq_mapM_toList, Sem.run_map]
 rw [h1]
 rfl
omit hT
theorem e6A.length {E : Env} : ∀ {l : List AV} {vs : List Value}, e6A E l vs → vs.length = g2B l
 | [], _, r => by rw [show _ = [] from r]; rfl
 | a :: l, vs, r => by
  obtain ⟨v, s, rfl, _, r2⟩ := r
  simp only [List.length_cons, g2B, e6A.length r2]
theorem e4H {E : Env} {args : List AV} {vals : List Value} {objs : Objs} {next : Nat} (hm : b1A E keep objs) (hN : E.N = next) (hr : e6A E args vals) (n : Nat) :
  Rel keep (vals.toArray ++ Array.replicate (n - vals.toArray.size) undef).size ⟨i2A args (u9A (.tup []) (n - g2B args)), objs, next⟩ { tmps := vals.toArray ++ Array.replicate (n - vals.toArray.size) undef, defers := [] } E := by
 have h := g4E (e6A.app hr (g5E (E := E) (n - g2B args)))
 have e : (vals ++ List.replicate (n - g2B args) undef).toArray = vals.toArray ++ Array.replicate (n - vals.toArray.size) undef := by
  rw [← e6A.length hr]
  apply Array.toList_inj.1
  simp
 rw [e] at h
 exact ⟨rfl, h, hm, hN, a6B.nil _ _⟩
theorem o8F {P : Program} {fn : Func} {keep : Nat → Prop} {tmps : Array Value} {R : Ending → World → Prop} : ∀ (Ds : List Nat) (E : Env), Ds.Nodup → (∀ D ∈ Ds, ¬ keep D ∧ E.ro D ∧ E.w.heap[D]? = some (.deferred (some []))) →
  (∀ E', Shut E E' → (∀ b, b ∉ Ds → E'.w.heap[b]? = E.w.heap[b]?) → ∃ v, (results fn tmps).run P E'.w = .ok v E'.w ∧ R (.returned v) E'.w) →
  LeavesInM (fw none) 0 P fn tmps R (Ds.map fun D => { target := .collected D, args := #[] }) .returning E.w
 | [], E, _, _, h => h E (Shut.refl E) (fun _ _ => rfl)
 | D :: Ds, E, hn, hD, h => by
  obtain ⟨h1, h2, h3⟩ := hD D List.mem_cons_self
  obtain ⟨hn1, hn2⟩ := List.nodup_cons.1 hn
  have hs : Shut E { E with w := E.w.putObj D (.deferred none) } := Shut.putObj _ h3
  refine ⟨by simp, .inl ⟨D, _, rfl, run_takeDeferred h3, ?_⟩⟩
  refine o8F (keep := keep) Ds { E with w := E.w.putObj D (.deferred none) } hn2 (fun D' hD' => ?_) fun E' hs' hother => ?_
  ·obtain ⟨g1, g2, g3⟩ := hD D' (List.mem_cons_of_mem _ hD')
   have hne : D' ≠ D := fun e => hn1 (e ▸ hD')
   exact ⟨g1, g2, (World.putObj_heap_other hne).trans g3⟩
  ·refine h E' (hs.trans hs') fun b hb => ?_
   exact (hother b fun h => hb (List.mem_cons_of_mem _ h)).trans (World.putObj_heap_other fun e => hb (e ▸ List.mem_cons_self))
include hT
theorem g8E (hP : P.follows .mixedOrders = true) {H : Handler} (hH : HOK P H) {f : FuncId} {fn : Func} {body : Code} (hf : P.funcs[f]? = some fn) (hb : fn.body = some body) {an : Ann} {args : List AV} {vals : List Value} {objs : Objs} {next : Nat} {R : Type} {K : List AV → St → Option R} {r : R} {E : Env}
  (h : e5A T H body an ⟨i2A args (u9A (.tup []) (fn.ntmps - g2B args)), objs, next⟩ (fun e S' => match e with
   | .exit _ => none
   | _ => match x5A S' fn.results.toList T with
    | some vs => K vs S'
    | none => none) = some r) (hm : b1A E keep objs) (hN : E.N = next) (hr : e6A E args vals) :
  Calls P f vals.toArray E.w fun e w' => ∃ us v S' E', e = .returned v ∧ E'.w = w' ∧ Later keep E E' ∧ b1A E' keep S'.objs ∧ E'.N = S'.next ∧ l3B E' us v ∧ K us S' = some r := by
 have hm0 : b1A E (fun b => keep b ∨ E.ro b) objs := ⟨hm.rep, fun id oc b hl hb => ⟨(hm.sep id oc b hl hb).1, fun hk => hk.elim (hm.sep id oc b hl hb).2 (hm.sep id oc b hl hb).1⟩, hm.inj, hm.rob, fun b hb => hb.elim (hm.kb b) (hm.rob b)⟩
 refine l4F.1 (callsIn_of_wp_marks (F := fw none) (n := 0) hf hb trivial (e1H hT hH hP body (.inl rfl) an h (e4H hm0 hN hr fn.ntmps) fun e S' a' E' hR hL hk => ?_))
 have fin : (match x5A S' fn.results.toList T with
   | some vs => K vs S'
   | none => none) = some r → LeavesInM (fw none) 0 P fn a'.tmps (fun e w' => ∃ us v S' E', e = .returned v ∧ E'.w = w' ∧ Later keep E E' ∧ b1A E' keep S'.objs ∧ E'.N = S'.next ∧ l3B E' us v ∧ K us S' = some r) a'.defers .returning E'.w := by
  intro hk
  split at hk
  ·rename_i vs hvs
   obtain ⟨Ds, hds, hnd, hD⟩ := hR.defers
   rw [hds]
   refine o8F (keep := fun b => keep b ∨ E.ro b) Ds E' hnd hD fun E2 hs hoth => ?_
   have hR2 : Rel (fun b => keep b ∨ E.ro b) _ S' { a' with defers := [] } E2 :=
    ⟨hR.size, ⟨hR.slots.1, fun i v hv => b0A.shut hs (hR.slots.2 i v hv)⟩, hR.mems.shut hs, hs.N.trans hR.next, a6B.nil _ _⟩
   obtain ⟨v, h1, h2⟩ := e3H hT hR2 fn hvs
   have hnk : ∀ b, keep b ∨ E.ro b → b ∉ Ds := fun b hb hm => (hD b hm).1 hb
   refine ⟨v, h1, vs, v, S', E2, rfl, rfl, ⟨fun b hb => by rw [hs.ro]; exact hL.ro b hb, fun b hb => ?_, fun id hi => by rw [hs.M]; exact hL.M id hi, by rw [hs.N]; exact hL.N, by rw [hs.size]; exact hL.size,
    fun b hb => (hoth b (hnk b (.inr hb))).trans (hL.heapRo b hb), fun b hb => (hoth b (hnk b (.inl hb))).trans (hL.heapKeep b (.inl hb)), hL.out.trans hs.out⟩, ?_, hR2.next, h2, hk⟩
   ·rw [hs.ro] at hb
    exact (hL.roN b hb).imp id fun h hk => h (.inl hk)
   ·exact ⟨hR2.mems.rep, fun id oc b hl hb => ⟨(hR2.mems.sep id oc b hl hb).1, fun hk => (hR2.mems.sep id oc b hl hb).2 (.inl hk)⟩, hR2.mems.inj, hR2.mems.rob, fun b hb => hR2.mems.kb b (.inl hb)⟩
  ·cases hk
 cases e with
 | normal => exact fin hk
 | ret => exact fin hk
 | exit id => cases hk
set_option linter.unusedSectionVars false in
theorem g9E : ∀ (l : List (Bool × Ty)) (x : f5A l) (m : Mem), v3A l = true → (m3A l x m).2 = m
  | [], _, _, _ => rfl
  | [t], x, m, h => by
    simp only [v3A, Bool.and_eq_true] at h
    simp only [m3A, k2A, q6B _ _ _ h.1]
  | t :: t' :: l, x, m, h => by
    simp only [v3A, Bool.and_eq_true] at h
    have h2 := g9E (t' :: l) x.2 m (by simp only [v3A, Bool.and_eq_true]; exact h.2)
    simp only [m3A, k2A, q6B _ _ _ h.1]
    exact h2
end
end Go.Rx
namespace Go.Rx
section
variable {P : Program} {T : Tab} (hT : TabOK P T) {keep : Nat → Prop}
theorem o2D : ∀ (t : Ty) {cs rest : List AV} {objs objs' : Objs} {x : den t}, c0A t cs objs = some (x, rest, objs') → ∀ j oc, a9A j objs' = some oc → a9A j objs = some oc
 | .int k, cs, rest, objs, objs', x, h => by
  simp only [c0A] at h
  split at h
  ·split at h
   ·cases h; exact fun _ _ h => h
   ·cases h
  ·cases h
 | .bool, cs, rest, objs, objs', x, h => by
  simp only [c0A] at h
  split at h
  ·cases h; exact fun _ _ h => h
  ·cases h
 | .str, cs, rest, objs, objs', x, h => by
  simp only [c0A] at h
  split at h
  ·cases h; exact fun _ _ h => h
  ·cases h
 | .sl t, cs, rest, objs, objs', x, h => by
  simp only [c0A] at h
  split at h
  ·obtain ⟨_, _, h⟩ := e1A h; cases h; exact fun _ _ h => h
  ·cases h; exact fun _ _ h => h
  ·obtain ⟨⟨_, _⟩, hl, h⟩ := e1A h; cases h; exact e3E hl
  ·cases h
 | .own t, cs, rest, objs, objs', x, h => by
  simp only [c0A] at h
  split at h
  ·cases h; exact fun _ _ h => h
  ·obtain ⟨⟨_, _⟩, hl, h⟩ := e1A h; cases h; exact e3E hl
  ·cases h
 | .unit, cs, rest, objs, objs', x, h => by
  simp only [c0A] at h; cases h; exact fun _ _ h => h
 | .pair a b, cs, rest, objs, objs', x, h => by
  simp only [c0A] at h
  split at h
  ·rename_i h1
   split at h
   ·rename_i h2
    cases h
    exact fun j oc hj => o2D a h1 j oc (o2D b h2 j oc hj)
   ·cases h
  ·cases h
 | .arr n t, cs, rest, objs, objs', x, h => by
  simp only [c0A] at h
  split at h
  ·split at h
   ·obtain ⟨_, _, h⟩ := e1A h; cases h; exact fun _ _ h => h
   ·cases h
  ·have key : ∀ (n : Nat) {cs rest : List AV} {objs objs' : Objs} {xs : List (den t)}, q7A (c0A t) n cs objs = some (xs, rest, objs') → ∀ j oc, a9A j objs' = some oc → a9A j objs = some oc := by
    intro n
    induction n with
    | zero => intro cs rest objs objs' xs h; simp only [q7A] at h; cases h; exact fun _ _ h => h
    | succ n ih =>
     intro cs rest objs objs' xs h
     simp only [q7A] at h
     split at h
     ·rename_i h1
      split at h
      ·rename_i h2
       cases h
       exact fun j oc hj => o2D t h1 j oc (ih h2 j oc hj)
      ·cases h
     ·cases h
   exact key n h
theorem o9F {t : Bool × Ty} {v : AV} {objs objs' : Objs} {x : den t.2} (h : s7A t v objs = some (x, objs')) : ∀ j oc, a9A j objs' = some oc → a9A j objs = some oc := by
 rcases f1A h with ⟨_, h⟩ | ⟨_, h⟩
 ·unfold o8A at h
  split at h
  ·split at h
   ·rename_i h1
    cases h
    exact o2D _ h1
   ·cases h
  ·cases h
 ·cases h
theorem p0F : ∀ (l : List (Bool × Ty)) {vs : List AV} {objs objs' : Objs} {x : f5A l}, m2A l vs objs = some (x, objs') → ∀ j oc, a9A j objs' = some oc → a9A j objs = some oc
 | [], vs, objs, objs', x, h => by
  cases vs with
  | nil => cases h; exact fun _ _ h => h
  | cons => cases h
 | [t], vs, objs, objs', x, h => by
  match vs, h with
  | [v], h => exact o9F h
 | t :: t' :: l, vs, objs, objs', x, h => by
  match vs, h with
  | v :: vs, h =>
   simp only [m2A] at h
   split at h
   ·rename_i h1
    split at h
    ·rename_i h2
     cases h
     exact fun j oc hj => o9F h1 j oc (p0F (t' :: l) h2 j oc hj)
    ·cases h
   ·cases h
theorem e5H {E : Env} {objs objs' : Objs} (h : b1A E keep objs) (hs : ∀ j oc, a9A j objs' = some oc → a9A j objs = some oc) : b1A E keep objs' :=
 ⟨fun id oc hl => h.rep id oc (hs _ _ hl), fun id oc b hl => h.sep id oc b (hs _ _ hl), fun id id' oc oc' b hl hl' => h.inj id id' oc oc' b (hs _ _ hl) (hs _ _ hl'), h.rob, h.kb⟩
include hT
theorem e6H (hP : P.follows .mixedOrders = true) {Es : List (Nat × v2A)} {depth : Nat} (hH : HOK P (r6A T Es depth)) {f : FuncId} {F : Func} {body : Code} (hf : P.funcs[f]? = some F) (hb : F.body = some body) (hname : (F.name == "runtime.NumGoroutine") = false)
  {an : Ann} {ins outs : List (Bool × Ty)} {fn : f5A ins → Option (f5A outs)} (h : ∀ x, c4E T Es depth F body an ins outs x = fn x) : a4A P f ins outs fn := by
 refine ⟨⟨F, hf, hname, by rw [hb]; rfl⟩, fun x y hxy keep E vs vals objs objs' hm hr hp => ?_⟩
 rw [← h] at hxy
 have T0 : Two 0 keep E { E with N := 0 } objs [] :=
  ⟨rfl, rfl, fun _ _ => rfl, Nat.le_refl _, hm, ⟨fun id oc h => (nomatch h), fun id oc b h => (nomatch h), fun id id' oc oc' b h => (nomatch h), hm.rob, hm.kb⟩, fun b _ hx => by obtain ⟨id, oc, h, _⟩ := hx; cases h⟩
 obtain ⟨A, B, g, L, T1, N1, hs⟩ := g7E ins T0 hr hp
 have hlive : ∀ b, h4A E objs' b → h4A A objs' b := fun b ⟨id, oc, h1, h2⟩ => ⟨id, oc, h1, by rw [g.M]; exact h2⟩
 have hwB : B.w = E.w := T1.w.trans g.w
 have hmB : b1A B (fun b => keep b ∨ h4A E objs' b) (m3A ins x ⟨[], 0⟩).2.objs :=
  ⟨T1.mb.rep, fun id oc b h1 h2 => ⟨(T1.mb.sep id oc b h1 h2).1, fun hc => hc.elim (T1.mb.sep id oc b h1 h2).2 fun hc => T1.ap b (hlive b hc) ⟨id, oc, h1, h2⟩⟩, T1.mb.inj, T1.mb.rob,
   fun b hb => hb.elim (T1.mb.kb b) fun hc => by
    obtain ⟨id, oc, h1, h2⟩ := hlive b hc
    have := x8A (T1.ma.rep _ _ h1).2 h2
    rw [T1.w]; exact this⟩
 unfold c4E at hxy
 rw [← hwB]
 refine (g8E (K := fun vs S' => match m2A outs vs S'.objs with
   | some (y, _) => some y
   | none => none) hT hP hH hf hb hxy hmB N1 hs.toS).mono ?_
 rintro e w' ⟨us, v, S', E', rfl, rfl, hL, hM, hN, hres, hk⟩
 split at hk
 ·rename_i y' ob' hpk
  cases hk
  refine ⟨us, v, S'.objs, ob', E', rfl, rfl, hres, hM, hpk, ⟨by rw [← hwB]; exact hL.out, fun b hb => hL.ro b ?_, fun b hb => ?_, ?_, fun b hb => ?_, fun b hb => ?_⟩⟩
  ·rw [T1.ro]; exact g.later.ro b hb
  ·rcases hL.roN b hb with hb | hb
   ·rw [T1.ro] at hb
    rcases g.later.roN b hb with h1 | h1
    ·exact .inl h1
    ·exact .inr fun hc => hc.elim h1 fun hc => by
      obtain ⟨id, oc, h2, h3⟩ := hlive b hc
      exact (T1.ma.sep _ _ _ h2 h3).1 hb
   ·exact .inr hb
  ·rw [← hwB]; exact hL.size
  ·rw [← hwB]; exact hL.heapRo b (by rw [T1.ro]; exact g.later.ro b hb)
  ·rw [← hwB]; exact hL.heapKeep b hb
 ·cases hk
omit hT
omit hT in
theorem e7H {f : FuncId} {F : Func} {body : Code} (hf : P.funcs[f]? = some F) (hb : F.body = some body) (hname : (F.name == "runtime.NumGoroutine") = false) {ins outs : List (Bool × Ty)}
    {G : (f5A ins → Option (f5A outs)) → f5A ins → Option (f5A outs)} (h : ∀ g, a4A P f ins outs g → a4A P f ins outs (G g)) : a4A P f ins outs (r6B G) := by
  have hn : ∀ n, a4A P f ins outs (w7A G n) := by
    intro n
    induction n with
    | zero => exact ⟨⟨F, hf, hname, by rw [hb]; rfl⟩, fun x y hy => nomatch hy⟩
    | succ n ih => exact h _ ih
  refine ⟨(hn 0).has, fun x y hy => ?_⟩
  unfold r6B at hy
  split at hy
  · rename_i he
    have hs := Classical.choose_spec (Classical.choose_spec he)
    rw [Option.some.inj hy] at hs
    exact (hn _).ok x y hs
  · cases hy
theorem a8A.flat {A B : Env} : ∀ {t : Ty} {x : den t} {vs : List Value}, t.flat = true → a8A A t x vs → a8A B t x vs
 | .int _, _, _, _, r => r
 | .bool, _, _, _, r => r
 | .str, _, _, _, r => r
 | .sl _, _, _, h, _ => by cases h
 | .own _, _, _, h, _ => by cases h
 | .unit, _, _, _, r => r
 | .pair a b, x, vs, h, r => by
  simp only [Ty.flat, Bool.and_eq_true] at h
  obtain ⟨u, v, e, r1, r2⟩ := r
  exact ⟨u, v, e, a8A.flat h.1 r1, a8A.flat h.2 r2⟩
 | .arr n t, l, vs, h, r => by
  obtain ⟨e1, e2, r⟩ := r
  refine ⟨e1, e2, fun i hi => ?_⟩
  obtain ⟨cs, r1, r2⟩ := r i hi
  exact ⟨cs, a8A.flat (by exact h) r1, r2⟩
theorem h4C : ∀ {t : Ty}, t.flat = true → t.pure = true
 | .int _, _ => rfl
 | .bool, _ => rfl
 | .str, _ => rfl
 | .sl _, h => by cases h
 | .own _, h => by cases h
 | .unit, _ => rfl
 | .pair a b, h => by
  simp only [Ty.flat, Bool.and_eq_true] at h
  simp only [Ty.pure, h4C h.1, h4C h.2, Bool.and_self]
 | .arr n t, h => h4C (t := t) h
theorem a8A.mono {A B : Env} (hw : B.w = A.w) (hr : ∀ b, A.ro b → B.ro b) : ∀ {t : Ty} {x : den t} {vs : List Value}, a8A A t x vs → a8A B t x vs
 | .int _, _, _, r => r
 | .bool, _, _, r => r
 | .str, _, _, r => r
 | .sl t, l, vs, r => by
  obtain ⟨a, cap, e, hc, r⟩ := r
  refine ⟨a, cap, e, hc, r.imp id ?_⟩
  rintro ⟨b, o, e, hb, r⟩
  refine ⟨b, o, e, hr b hb, fun i hi => ?_⟩
  obtain ⟨cs, r1, r2⟩ := r i hi
  exact ⟨cs, a8A.mono hw hr r1, fun j v hj => by rw [hw]; exact r2 j v hj⟩
 | .own _, _, _, r => r
 | .unit, _, _, r => r
 | .pair a b, x, vs, r => by
  obtain ⟨u, v, e, r1, r2⟩ := r
  exact ⟨u, v, e, a8A.mono hw hr r1, a8A.mono hw hr r2⟩
 | .arr n t, l, vs, r => by
  obtain ⟨e1, e2, r⟩ := r
  refine ⟨e1, e2, fun i hi => ?_⟩
  obtain ⟨cs, r1, r2⟩ := r i hi
  exact ⟨cs, a8A.mono hw hr r1, r2⟩
theorem o3D {t : Bool × Ty} {v : AV} {xv : Value} {x : den t.2} {E : Env} {objs objs1 : Objs} (hp : t.2.pure = true) (hm : b1A E keep objs) (hrep : b0A E v xv) (hx : s7A t v objs = some (x, objs1)) :
  ∃ E', i9A keep E E' ∧ b1A E' keep objs1 ∧ a8A E' t.2 x xv.cells.toList ∧ (∀ b, E'.ro b → E.ro b ∨ h4A E objs b) ∧ ∀ {B : Env} {m : Mem}, a8A B t.2 x xv.cells.toList → e7A B (k2A t x m).1 xv := by
 obtain ⟨agg, t⟩ := t
 rcases f1A hx with ⟨hc, hx⟩ | ⟨_, hx⟩
 ·simp only [Bool.and_eq_true] at hc
  obtain ⟨⟨_, hfit⟩, hag⟩ := hc
  unfold o8A at hx
  split at hx
  ·rename_i cs hcs
   split at hx
   ·rename_i x' oa2 hto
    cases hx
    obtain ⟨E', u, w, g, m, e, t1, c, l1, _⟩ := q5B t hp (q3B hrep hcs) hm hto
    rw [show w = [] from c, List.append_nil] at e
    refine ⟨E', g, m, e ▸ t1, l1, fun {B m} tB => ?_⟩
    have c1 := a8B tB
    have hl : (c4A t x m).1 = enc t x := by rw [q6B t x m hp]
    show e7A B (if agg then .agg (c4A t x m).1 else u8A (c4A t x m).1) xv
    cases agg with
    | true =>
     cases v <;> first
      | (simp [x3A] at hfit; done)
      | skip
     obtain ⟨vs, rfl, _⟩ := hrep
     exact ⟨vs, rfl, by rw [hl]; simpa [Value.cells] using c1⟩
    | false =>
     have hsc : t.scalar = true := by simpa using hag
     obtain ⟨c, ec, hcell⟩ := v8C (x := x) (m := m) hsc
     have hone : xv.cells = #[xv] := by
      cases v <;> first
       | (simp [x3A] at hfit; done)
       | (simp [p9A] at hcs; done)
       | exact j1F (b8A.one (E := E) (show b8A E _ [xv] from hrep) xv (by simp))
     rw [← hl, ec, hone] at c1
     obtain ⟨u, r, e, c3, c4⟩ := c1
     rw [show r = [] from c4, List.append_nil] at e
     have e : u = [xv] := e.symm
     rw [e] at c3
     rw [ec]
     show e7A B c xv
     cases c <;> first
      | (simp [s6A] at hcell; done)
      | exact c3
   ·cases hx
  ·cases hx
 ·cases hx
theorem o4D : ∀ (t : Ty) (x : den t) (rest : List AV) (objs : Objs), t.pure = true → c0A t (i2A (enc t x) rest) objs = some (x, rest, objs)
 | .int k, x, rest, objs, _ => by simp [enc, i2A, c0A]
 | .bool, x, rest, objs, _ => by simp [enc, i2A, c0A]
 | .str, x, rest, objs, _ => by simp [enc, i2A, c0A]
 | .sl t, x, rest, objs, _ => by simp [enc, i2A, c0A, v0A, oM]
 | .own t, _, _, _, h => by cases h
 | .unit, x, rest, objs, _ => rfl
 | .pair a b, x, rest, objs, h => by
  simp only [Ty.pure, Bool.and_eq_true] at h
  have happ : ∀ (l m k : List AV), i2A (i2A l m) k = i2A l (i2A m k) := by
   intro l m k
   induction l with
   | nil => rfl
   | cons a l ih => simp only [i2A, ih]
  simp only [enc, c0A, happ, o4D a x.1 _ objs h.1, o4D b x.2 _ objs h.2]
 | .arr n t, x, rest, objs, _ => by simp [enc, i2A, c0A, v0A, oM]
theorem h0E : ∀ (l : List AV), i2A l [] = l
 | [] => rfl
 | a :: l => by simp only [i2A, h0E l]
theorem e8H {t : Bool × Ty} {v : AV} {x : den t.2} {objs objs1 ob : Objs} {m : Mem} (hp : t.2.pure = true) (hx : s7A t v objs = some (x, objs1)) : s7A t (k2A t x m).1 ob = some (x, ob) := by
 obtain ⟨agg, t⟩ := t
 rcases f1A hx with ⟨hc, _⟩ | ⟨_, hx⟩
 ·simp only [Bool.and_eq_true] at hc
  obtain ⟨⟨hokp, _⟩, hag⟩ := hc
  have hl : (c4A t x m).1 = enc t x := by rw [q6B t x m hp]
  have henc := o4D t x [] ob hp
  rw [h0E] at henc
  show (bif t.okp && x3A agg (if agg then .agg (c4A t x m).1 else u8A (c4A t x m).1) && (agg || t.scalar) then o8A t (if agg then .agg (c4A t x m).1 else u8A (c4A t x m).1) ob else none) = some (x, ob)
  cases agg with
  | true => simp [hokp, x3A, o8A, p9A, hl, henc]
  | false =>
   have hsc : t.scalar = true := by simpa using hag
   obtain ⟨c, ec, hcell⟩ := v8C (x := x) (m := m) hsc
   rw [← hl, ec] at henc
   have hco : p9A c = some [c] := by cases c <;> first | (simp [s6A] at hcell; done) | rfl
   have hfi : x3A false c = true := by cases c <;> first | (simp [s6A] at hcell; done) | rfl
   simp [hokp, hsc, ec, u8A, hfi, o8A, hco, henc]
 ·cases hx
theorem e9H {t : Bool × Ty} {v : AV} {objs : Objs} {x : den t.2} (h : f4C t v objs = some x) :
  (∃ ty id off n ty' lo len, t = (false, .sl ty) ∧ v = .bsl id off n ty' lo len) ∨ ∃ o, s7A t v objs = some (x, o) := by
 unfold f4C at h
 split at h
 ·exact .inl ⟨_, _, _, _, _, _, _, rfl, rfl⟩
 ·split at h
  ·cases h; exact .inr ⟨_, by assumption⟩
  ·cases h
theorem p1F {t : Bool × Ty} {v : AV} {xv : Value} {x : den t.2} {E : Env} {objs : Objs} {m : Mem} (hp : t.2.pure = true) (hm : b1A E keep objs) (hrep : b0A E v xv) (h : f4C t v objs = some x) :
  b0A { E with ro := fun b => E.ro b ∨ h4A E objs b } (k2A t x m).1 xv ∧ s7A t (k2A t x m).1 [] = some (x, []) := by
 rcases e9H h with ⟨ty, id, off, n, ty', lo, len, rfl, rfl⟩ | ⟨o1, h1⟩
 ·simp only [f4C] at h
  have hb2 := f1A h
  have hw : a0A ty' = a0A ty := by
   rcases hb2 with ⟨hw, _⟩ | ⟨_, h⟩
   ·exact Nat.eq_of_beq_eq_true hw
   ·cases h
  rw [hw, Nat.beq_refl, cond_true] at h
  split at h
  ·rename_i cs hl
   split at h
   ·rename_i l ha
    have hx := Option.some.inj h
    subst hx
    obtain ⟨hi, hlo, b, o, hb, hv, ho⟩ := hrep
    obtain ⟨h1, h2⟩ := hm.rep _ _ hl
    obtain ⟨b', vs, e, hb', hh, hc⟩ := h2
    rw [hb] at hb'; cases hb'
    obtain ⟨ha1, ha2⟩ := v1C hc ha
    have hlen : ((l.drop lo).take len).length = len := by
     have := ha2.1
     rw [List.length_take, List.length_drop]; omega
    have key : a8A { E with ro := fun b => E.ro b ∨ h4A E objs b } (.sl ty) ((l.drop lo).take len) [xv] := by
     refine ⟨some ⟨b, o, none⟩, n - lo, ?_, ⟨by rw [hlen]; omega, nofun⟩, ?_⟩
     ·rw [hlen]; exact hv
     ·by_cases h0 : len = 0
      ·left; rw [hlen]; exact h0
      ·right
       refine ⟨b, o, rfl, .inr ⟨id, _, hl, hb⟩, fun i hi' => ?_⟩
       rw [hlen] at hi'
       rcases ho with ho | ho
       ·omega
       have hAt : At E.w b off ((vs.toList.drop off).take (n * a0A ty)) := fun j v hj => by
        have hj' : j < n * a0A ty := by
         have := (List.getElem?_eq_some_iff.1 hj).1
         rw [List.length_take] at this; omega
        rw [List.getElem?_take_of_lt hj', List.getElem?_drop] at hj
        simp only [World.cell?, hh]
        simpa using hj
       obtain ⟨cs', r1, r2⟩ := l4D (k := lo + i) ha2 hAt (by omega)
       refine ⟨cs', ?_, fun j v hj => ?_⟩
       ·have e1 : ((l.drop lo).take len)[i] = l.getD (lo + i) (d1A ty) := by
         have hll := ha2.1
         rw [List.getElem_take, List.getElem_drop, List.getD_eq_getElem?_getD, List.getElem?_eq_getElem (by omega)]; rfl
        rw [e1]
        exact a8A.mono (A := E) (B := { E with ro := fun b => E.ro b ∨ h4A E objs b }) rfl (fun b h => Or.inl h) r1
       ·have := r2 j v hj
        rw [ho]
        have e2 : off + lo * a0A ty' + i * a0A ty + j = off + (lo + i) * a0A ty + j := by rw [hw, Nat.add_mul]; omega
        rw [e2]; exact this
    have ho : (Ty.sl ty).okp = true := hp
    exact ⟨key, by simp [k2A, c4A, s7A, u8A, c0A, p9A, o8A, v0A, Ty.scalar, oM, ho, x3A]⟩
   ·cases h
  ·cases h
 ·obtain ⟨E', g, _, t1, l1, hB⟩ := o3D hp hm hrep h1
  exact ⟨(hB (a8A.mono (by rw [g.w]) l1 t1)).toS, e8H hp h1⟩
theorem p2F {E : Env} {objs : Objs} (hm : b1A E keep objs) : ∀ (l : List (Bool × Ty)) {vs : List AV} {vals : List Value} {x : f5A l} {m : Mem}, v3A l = true → e6A E vs vals → f5C objs l vs = some x →
  e6A { E with ro := fun b => E.ro b ∨ h4A E objs b } (m3A l x m).1 vals ∧ m2A l (m3A l x m).1 [] = some (x, [])
 | [], vs, vals, x, m, _, hr, h => by
  cases vs with
  | nil => exact ⟨hr, rfl⟩
  | cons => cases h
 | [t], vs, vals, x, m, hp, hr, h => by
  simp only [v3A, Bool.and_eq_true] at hp
  match vs, hr, h with
  | [v], hr, h =>
   obtain ⟨xv, r, rfl, r1, r2⟩ := hr
   simp only [f5C] at h
   obtain ⟨h1, h2⟩ := p1F (m := m) hp.1 hm r1 h
   exact ⟨⟨xv, r, rfl, h1, r2⟩, h2⟩
 | t :: t' :: l, vs, vals, x, m, hp, hr, h => by
  simp only [v3A, Bool.and_eq_true] at hp
  match vs, hr, h with
  | v :: vs, hr, h =>
   obtain ⟨xv, r, rfl, r1, r2⟩ := hr
   simp only [f5C] at h
   split at h
   ·rename_i y h1
    split at h
    ·rename_i ys h2
     cases h
     obtain ⟨a1, a2⟩ := p1F (m := m) hp.1 hm r1 h1
     obtain ⟨h3, h4⟩ := p2F hm (t' :: l) (m := (k2A t y m).2) (by simp only [v3A, Bool.and_eq_true]; exact hp.2) r2 h2
     refine ⟨⟨xv, r, rfl, a1, h3⟩, ?_⟩
     simp only [m3A, m2A, a2, h4]
    ·cases h
   ·cases h
theorem p3F : ∀ (l : List (Bool × Ty)) {E B : Env} {objs objs' : Objs} {us : List AV} {vals : List Value} {x : f5A l} {m : Mem}, g6B l = true → b1A E keep objs → e6A E us vals → m2A l us objs = some (x, objs') → p0A B (m3A l x m).1 vals
 | [], E, B, objs, objs', us, vals, x, m, _, hm, hr, h => by
  cases us with
  | nil => exact hr
  | cons => cases h
 | [t], E, B, objs, objs', us, vals, x, m, hf, hm, hr, h => by
  simp only [g6B, Bool.and_eq_true] at hf
  match us, hr, h with
  | [v], hr, h =>
   obtain ⟨xv, r, rfl, r1, r2⟩ := hr
   obtain ⟨E', g, _, t1, l1, hB⟩ := o3D (h4C hf.1) hm r1 h
   exact ⟨xv, r, rfl, hB (a8A.flat hf.1 t1), r2⟩
 | t :: t' :: l, E, B, objs, objs', us, vals, x, m, hf, hm, hr, h => by
  simp only [g6B, Bool.and_eq_true] at hf
  match us, hr, h with
  | v :: us, hr, h =>
   obtain ⟨xv, r, rfl, r1, r2⟩ := hr
   simp only [m2A] at h
   split at h
   ·rename_i y o1 h1
    split at h
    ·rename_i ys o2 h2
     cases h
     obtain ⟨E', g, m1, t1, l1, hB⟩ := o3D (h4C hf.1) hm r1 h1
     exact ⟨xv, r, rfl, hB (a8A.flat hf.1 t1), p3F (t' :: l) (by simp only [g6B, Bool.and_eq_true]; exact hf.2) m1 (e6A.later g.later r2) h2⟩
    ·cases h
   ·cases h
theorem h1E : ∀ (l : List (Bool × Ty)), g6B l = true → v3A l = true
 | [], _ => rfl
 | t :: l, h => by
  simp only [g6B, Bool.and_eq_true] at h
  simp only [v3A, h4C h.1, h1E l h.2, Bool.and_self]
theorem l4B {ids : List Nat} {id : Nat} {oc : OC} : ∀ {l : Objs}, a9A id (inO ids l) = some oc → a9A id l = some oc ∧ memN id ids = true
 | (j, o) :: l, h => by
  simp only [inO] at h
  cases hb : memN j ids with
  | true =>
   rw [hb] at h
   simp only [cond_true, a9A] at h ⊢
   cases hj : Nat.beq j id with
   | true =>
    rw [hj] at h
    have := Nat.eq_of_beq_eq_true hj
    subst this
    exact ⟨h, hb⟩
   | false => rw [hj] at h; exact l4B h
  | false =>
   rw [hb] at h
   simp only [cond_false] at h
   obtain ⟨h1, h2⟩ := l4B h
   refine ⟨?_, h2⟩
   simp only [a9A]
   cases hj : Nat.beq j id with
   | true =>
    have := Nat.eq_of_beq_eq_true hj
    subst this
    rw [hb] at h2; cases h2
   | false => exact h1
theorem h5B {ids : List Nat} {id : Nat} {oc : OC} : ∀ {l : Objs}, a9A id (v6A ids l) = some oc → a9A id l = some oc ∧ memN id ids = false
 | (j, o) :: l, h => by
  simp only [v6A] at h
  cases hb : memN j ids with
  | false =>
   rw [hb] at h
   simp only [cond_false, a9A] at h ⊢
   cases hj : Nat.beq j id with
   | true =>
    rw [hj] at h
    have := Nat.eq_of_beq_eq_true hj
    subst this
    exact ⟨h, hb⟩
   | false => rw [hj] at h; exact h5B h
  | true =>
   rw [hb] at h
   simp only [cond_true] at h
   obtain ⟨h1, h2⟩ := h5B h
   refine ⟨?_, h2⟩
   simp only [a9A]
   cases hj : Nat.beq j id with
   | true =>
    have := Nat.eq_of_beq_eq_true hj
    subst this
    rw [hb] at h2; cases h2
   | false => exact h1
theorem h6B {ids : List Nat} {n id : Nat} {oc : OC} : ∀ {l : Objs}, a9A id (h0B ids n l) = some oc → a9A id l = some oc ∧ (memN id ids || Nat.ble n id) = true
 | (j, o) :: l, h => by
  simp only [h0B] at h
  cases hb : (memN j ids || Nat.ble n j) with
  | true =>
   rw [hb] at h
   simp only [cond_true, a9A] at h ⊢
   cases hj : Nat.beq j id with
   | true =>
    rw [hj] at h
    have := Nat.eq_of_beq_eq_true hj
    subst this
    exact ⟨h, hb⟩
   | false => rw [hj] at h; exact h6B h
  | false =>
   rw [hb] at h
   simp only [cond_false] at h
   obtain ⟨h1, h2⟩ := h6B h
   refine ⟨?_, h2⟩
   simp only [a9A]
   cases hj : Nat.beq j id with
   | true =>
    have := Nat.eq_of_beq_eq_true hj
    subst this
    rw [hb] at h2; cases h2
   | false => exact h1
theorem h2E {ids : List Nat} {id : Nat} (hi : memN id ids = false) : ∀ {l : Objs}, a9A id (v6A ids l) = a9A id l
 | [] => rfl
 | (j, o) :: l => by
  simp only [v6A]
  cases hb : memN j ids with
  | false =>
   simp only [cond_false, a9A]
   rw [h2E hi]
  | true =>
   simp only [cond_true, a9A]
   rw [h2E hi]
   cases hj : Nat.beq j id with
   | true =>
    have := Nat.eq_of_beq_eq_true hj
    subst this
    rw [hb] at hi; cases hi
   | false => rfl
theorem p4F {id : Nat} : ∀ {l m : Objs}, a9A id m = none → a9A id (h1B l m) = a9A id l
 | [], m, h => h
 | (j, o) :: l, m, h => by
  simp only [h1B]
  rw [g5A, p4F h]
  simp only [a9A]
  cases hj : Nat.beq j id with
  | true =>
   have := Nat.eq_of_beq_eq_true hj
   subst this
   rw [if_pos rfl]; rfl
  | false =>
   have hne : id ≠ j := fun e => by rw [e, Nat.beq_refl] at hj; cases hj
   rw [if_neg hne]; rfl
theorem w8C {id : Nat} {oc : OC} : ∀ {l m : Objs}, a9A id (h1B l m) = some oc → a9A id l = some oc ∨ a9A id m = some oc
 | [], m, h => .inr h
 | (j, o) :: l, m, h => by
  simp only [h1B] at h
  rw [g5A] at h
  simp only [a9A]
  cases hj : Nat.beq j id with
  | true =>
   have := Nat.eq_of_beq_eq_true hj
   subst this
   rw [if_pos rfl] at h
   exact .inl h
  | false =>
   have hne : id ≠ j := fun e => by rw [e, Nat.beq_refl] at hj; cases hj
   rw [if_neg hne] at h
   exact w8C h
def w9C (P : Program) (f : FuncId) : v2A → Prop
 | .sem ins outs fn => a4A P f ins outs fn
 | .inl fn body _ => P.funcs[f]? = some fn ∧ fn.body = some body ∧ (fn.name == "runtime.NumGoroutine") = false
 | .back n => 0 < n ∧ n ≤ 1000000 ∧ ∃ D T, TabOK P T ∧ x1C P T f n D
 | .ext fn => ∀ (E : Env) (args : List AV) (vals : List Value) (v : AV), fn args = some v → e6A E args vals → ∃ x, (callFunc f vals.toArray).run P E.w = .ok (.value x) E.w ∧ b0A E v x
include hT
theorem h3E (hP : P.follows .mixedOrders = true) {Es : List (Nat × v2A)} (hE : ∀ f c, g9B f Es = some c → w9C P f c) : ∀ n, HOK P (r6A T Es n)
 | 0 => ⟨fun f args S K => rfl, fun f args S v S' h => (nomatch h), fun f args S v S' l h => (nomatch h), fun f n h => (nomatch h), fun f args S K r h => (nomatch h), fun f args S K r h => (nomatch h), fun f args S K r h => (nomatch h)⟩
 | n + 1 => by
  have ih := h3E hP hE n
  refine ⟨o0D T Es (n + 1), fun f args S v S' h hr => ?_, fun f args S v S' l h hr j hj hlt => ?_, fun f m h => ?_, fun f args S K r h => ?_, fun f args S K r h hx E vals hr => ?_, fun f args S K r h hx keep E vals hm hN hr => ?_⟩
  ·simp only [r6A] at h hr
   split at h
   ·rename_i ins outs fn he
    rw [he] at hr
    simp only [h, cond_true] at hr
    split at hr
    ·rw [Option.bind_eq_some_iff] at hr
     obtain ⟨y, _, hr⟩ := hr
     simp only [Bool.and_eq_true] at h
     have hmem : (g7B outs y ⟨S.objs, S.next⟩).2 = ⟨S.objs, S.next⟩ := g9E hT outs y _ (h1E outs h.1)
     cases hr
     exact ⟨by rw [hmem], by rw [hmem]⟩
    ·cases hr
   ·rename_i fn he
    rw [he] at hr
    dsimp only at hr
    split at hr
    ·cases hr; exact ⟨rfl, rfl⟩
    ·cases hr
   ·cases h
  ·simp only [r6A] at h hr
   split at h
   ·rename_i ins outs fn he
    cases h
    rw [he] at hr
    dsimp only at hr
    rcases f1A hr with ⟨_, hr⟩ | ⟨_, hr⟩
    ·split at hr
     ·rw [Option.bind_eq_some_iff] at hr
      obtain ⟨y, _, hr⟩ := hr
      cases hr
      exact (e9E outs y ⟨S.objs, S.next⟩).2 hlt
     ·cases hr
    ·split at hr
     ·rename_i x objs hx
      rw [Option.bind_eq_some_iff] at hr
      obtain ⟨y, _, hr⟩ := hr
      cases hr
      exact ((e9E outs y ⟨objs, S.next⟩).2 hlt).trans (k8F ins hx hj)
     ·cases hr
   ·rename_i fn body an he
    cases h
    rw [he] at hr
    dsimp only at hr
    generalize w6B S.objs 6 (h9A.idsVs args) = ids at hr hj
    rw [g6E (o0D T Es n), Option.bind_eq_some_iff] at hr
    obtain ⟨⟨e, S1⟩, _, hr⟩ := hr
    have hj' : memN j ids = false := by
     cases hb : memN j ids with
     | false => rfl
     | true => exact absurd (x1B.1 hb) hj
    have key : ∀ {us : List AV}, some (u2C us, { S with objs := h1B (v6A ids S.objs) (h0B ids S.next S1.objs), next := S1.next }) = some (v, S') → a9A j S'.objs = a9A j S.objs := fun e => by
     cases e
     show a9A j (h1B (v6A ids S.objs) (h0B ids S.next S1.objs)) = _
     rw [p4F, h2E hj']
     cases hn : a9A j (h0B ids S.next S1.objs) with
     | none => rfl
     | some oc =>
      have h2 := (h6B hn).2
      rw [hj', Bool.false_or] at h2
      exact absurd (Nat.le_of_ble_eq_true h2) (by omega)
    dsimp only at hr
    split at hr
    ·cases hr
    ·split at hr
     ·exact key hr
     ·cases hr
   ·rename_i fn he
    rw [he] at hr
    dsimp only at hr
    split at hr
    ·cases hr; rfl
    ·cases hr
   ·cases h
  ·simp only [r6A] at h
   split at h
   ·rename_i n' he
    cases h
    exact hE f _ he
   ·cases h
  ·unfold r6A at h
   dsimp only at h
   split at h
   ·cases h
   ·cases h
   ·rename_i fn he
    exact .inr (by simp only [r6A, he])
   ·rename_i ins outs fn he
    exact .inl (hE f _ he).has
   ·rename_i fn body an he
    obtain ⟨h1, h2, h3⟩ := hE f _ he
    exact .inl ⟨fn, h1, h3, by rw [h2]; rfl⟩
  ·simp only [r6A] at hx h
   split at hx
   ·rename_i fn he
    rw [he] at h
    dsimp only at h
    split at h
    ·rename_i v hv
     obtain ⟨x, h1, h2⟩ := hE f _ he E args vals v hv hr
     exact ⟨v, x, h1, h2, h⟩
    ·cases h
   ·cases hx
  ·unfold r6A at h
   dsimp only at h
   split at h
   ·cases h
   ·cases h
   ·rename_i fn he
    simp only [r6A, he] at hx
    cases hx
   ·rename_i ins outs fn he
    have hC : a4A P f ins outs fn := hE f _ he
    cases hb : (g6B outs && v3A ins) with
    | true =>
     rw [hb] at h
     simp only [Bool.and_eq_true] at hb
     simp only [cond_true] at h
     split at h
     ·rename_i x hx
      rw [Option.bind_eq_some_iff] at h
      obtain ⟨y, hy, h⟩ := h
      obtain ⟨h1, h2⟩ := p2F hm ins (m := ⟨[], 0⟩) hb.2 hr hx
      have hm1 : b1A { E with ro := fun b => E.ro b ∨ h4A E S.objs b } keep [] :=
       ⟨fun id oc h => (nomatch h), fun id oc b h => (nomatch h), fun id id' oc oc' b h => (nomatch h), fun b hb => hb.elim (hm.rob b) fun ⟨id, oc, h1, h2⟩ => x8A (E := E) (hm.rep _ _ h1).2 h2, hm.kb⟩
      refine (hC.ok x y hy keep _ _ vals [] [] hm1 h1 h2).mono ?_
      rintro e w' ⟨us, v, ob, ob', E', rfl, rfl, hres, hM, hpk, hF⟩
      have hL : Later keep E { E with w := E'.w } :=
       ⟨fun _ h => h, fun _ h => .inl h, fun _ _ => rfl, Nat.le_refl _, hF.size, fun b hb => hF.heapRo b (.inl hb), fun b hb => hF.heapKeep b (.inl hb), hF.out⟩
      have hM2 : b1A { E with w := E'.w } keep S.objs :=
       ⟨fun id oc hl => ⟨(hm.rep id oc hl).1, f4A.later hL (fun b hb => hF.heapRo b (.inr ⟨id, oc, hl, hb⟩)) (hm.rep id oc hl).2⟩, hm.sep, hm.inj, fun b hb => Nat.lt_of_lt_of_le (hm.rob b hb) hF.size, fun b hb => Nat.lt_of_lt_of_le (hm.kb b hb) hF.size⟩
      obtain ⟨vs', hvr, ev⟩ := hres
      have hflat := p3F outs (B := { E with w := E'.w }) (m := ⟨S.objs, S.next⟩) hb.1 hM hvr.toS hpk
      have hmem : (g7B outs y ⟨S.objs, S.next⟩).2 = ⟨S.objs, S.next⟩ := g9E hT outs y _ (h1E outs hb.1)
      refine ⟨_, v, { S with objs := (g7B outs y ⟨S.objs, S.next⟩).2.objs, next := (g7B outs y ⟨S.objs, S.next⟩).2.next }, { E with w := E'.w }, rfl, rfl, hL, ?_, ?_, rfl, l3B.one ⟨vs', hflat, ev⟩, h⟩
      ·show b1A _ keep (g7B outs y ⟨S.objs, S.next⟩).2.objs
       rw [hmem]; exact hM2
      ·show E.N = (g7B outs y ⟨S.objs, S.next⟩).2.next
       rw [hmem]; exact hN
     ·cases h
    | false =>
     rw [hb] at h
     simp only [cond_false] at h
     split at h
     ·rename_i x objs' hx
      rw [Option.bind_eq_some_iff] at h
      obtain ⟨y, hy, h⟩ := h
      refine (hC.ok x y hy keep E args vals S.objs objs' hm hr hx).mono ?_
      rintro e w' ⟨us, v, ob, ob', E', rfl, rfl, hres, hM, hpk, hF⟩
      have hm' := e5H hm (p0F ins hx)
      have hL : Later keep E { E' with M := E.M, N := E.N } :=
       ⟨hF.ro, fun b hb => (hF.roN b hb).imp id fun h hc => h (.inl hc), fun _ _ => rfl, Nat.le_refl _, hF.size, hF.heapRo, fun b hb => hF.heapKeep b (.inl hb), hF.out⟩
      have hM2 : b1A { E' with M := E.M, N := E.N } keep objs' :=
       ⟨fun id oc hl => ⟨(hm'.rep id oc hl).1, f4A.later hL (fun b hb => hF.heapKeep b (.inr ⟨id, oc, hl, hb⟩)) (hm'.rep id oc hl).2⟩,
        fun id oc b hl hb => ⟨fun hc => (hF.roN b hc).elim (hm'.sep id oc b hl hb).1 fun hc => hc (.inr ⟨id, oc, hl, hb⟩), (hm'.sep id oc b hl hb).2⟩, hm'.inj, hM.rob, fun b hb => Nat.lt_of_lt_of_le (hm.kb b hb) hF.size⟩
      have T0 : Two 0 keep E' { E' with M := E.M, N := E.N } ob objs' :=
       ⟨rfl, rfl, fun id hi => absurd hi (Nat.not_lt_zero _), Nat.zero_le _, hM.weaker fun _ h => .inl h, hM2, fun b ⟨id, oc, h1, h2⟩ hx => (hM.sep id oc b h1 h2).2 (.inr hx)⟩
      obtain ⟨vs', hvr, ev⟩ := hres
      obtain ⟨A1, B1, g, L, T1, N1, hs⟩ := g7E outs T0 hvr.toS hpk
      have hN' : ({ E' with M := E.M, N := E.N } : Env).N = S.next := hN
      rw [hN'] at T1 N1 hs
      refine ⟨_, v, { S with objs := (g7B outs y ⟨objs', S.next⟩).2.objs, next := (g7B outs y ⟨objs', S.next⟩).2.next }, B1, rfl, T1.w.trans g.w, hL.trans L, T1.mb, N1, rfl, l3B.one ⟨vs', hs, ev⟩, h⟩
     ·cases h
   ·rename_i fn body an he
    obtain ⟨h1, h2, h3⟩ := hE f _ he
    generalize w6B S.objs 6 (h9A.idsVs args) = ids at h
    have hin : b1A E (fun b => keep b ∨ h4A E (v6A ids S.objs) b) (inO ids S.objs) := by
     refine ⟨fun id oc hl => hm.rep id oc (l4B hl).1, fun id oc b hl hb => ⟨(hm.sep _ _ _ (l4B hl).1 hb).1, fun hk => ?_⟩, fun id id' oc oc' b hl hl' => hm.inj _ _ _ _ _ (l4B hl).1 (l4B hl').1, hm.rob, fun b hb => ?_⟩
     ·rcases hk with hk | ⟨id', oc', h4, h5⟩
      ·exact (hm.sep _ _ _ (l4B hl).1 hb).2 hk
      ·have := hm.inj _ _ _ _ _ (l4B hl).1 (h5B h4).1 hb h5
       subst this
       have h6 := (l4B hl).2
       rw [(h5B h4).2] at h6; cases h6
     ·rcases hb with hb | ⟨id', oc', h4, h5⟩
      ·exact hm.kb b hb
      ·exact x8A (hm.rep _ _ (h5B h4).1).2 h5
    refine (g8E (K := fun vs S' => K (u2C vs) { S with objs := h1B (v6A ids S.objs) (h0B ids S.next S'.objs), next := S'.next }) hT hP ih h1 h2 h hin hN hr).mono ?_
    rintro e w' ⟨us, v, S', E', rfl, rfl, hL, hM, hN', hres, hk⟩
    refine ⟨_, v, { S with objs := h1B (v6A ids S.objs) (h0B ids S.next S'.objs), next := S'.next }, E', rfl, rfl, hL.weaker fun _ h => .inl h, ?_, hN', rfl, hres.one, hk⟩
    have hout : ∀ id oc, a9A id (v6A ids S.objs) = some oc → id < E.N ∧ E'.M id = E.M id ∧ f4A E (E.M id) oc := fun id oc hl =>
     have h0 := hm.rep _ _ (h5B hl).1
     ⟨h0.1, hL.M id h0.1, h0.2⟩
    have hnk : ∀ id oc b, a9A id (v6A ids S.objs) = some oc → (E.M id).blk = some b → ¬ E'.ro b := fun id oc b hl hb hr' => by
     rcases hL.roN b hr' with h4 | h4
     ·exact (hm.sep _ _ _ (h5B hl).1 hb).1 h4
     ·exact h4 (.inr ⟨id, oc, hl, hb⟩)
    refine ⟨fun id oc hl => ?_, fun id oc b hl hb => ?_, fun id id' oc oc' b hl hl' hb hb' => ?_, hM.rob, fun b hb => hM.kb b (.inl hb)⟩
    ·rcases w8C hl with hl | hl
     ·obtain ⟨a1, a2, a3⟩ := hout id oc hl
      refine ⟨Nat.lt_of_lt_of_le a1 hL.N, ?_⟩
      rw [a2]
      exact f4A.later hL (fun b hb => hL.heapKeep b (.inr ⟨id, oc, hl, hb⟩)) a3
     ·exact hM.rep _ _ (h6B hl).1
    ·rcases w8C hl with hl | hl
     ·obtain ⟨a1, a2, a3⟩ := hout id oc hl
      rw [a2] at hb
      exact ⟨hnk id oc b hl hb, (hm.sep _ _ _ (h5B hl).1 hb).2⟩
     ·exact ⟨(hM.sep _ _ _ (h6B hl).1 hb).1, fun hk => (hM.sep _ _ _ (h6B hl).1 hb).2 (.inl hk)⟩
    ·rcases w8C hl with hl | hl <;> rcases w8C hl' with hl' | hl'
     ·rw [(hout id oc hl).2.1] at hb
      rw [(hout id' oc' hl').2.1] at hb'
      exact hm.inj _ _ _ _ _ (h5B hl).1 (h5B hl').1 hb hb'
     ·rw [(hout id oc hl).2.1] at hb
      exact absurd (.inr ⟨id, oc, hl, hb⟩) (hM.sep _ _ _ (h6B hl').1 hb').2
     ·rw [(hout id' oc' hl').2.1] at hb'
      exact absurd (.inr ⟨id', oc', hl', hb'⟩) (hM.sep _ _ _ (h6B hl).1 hb).2
     ·exact hM.inj _ _ _ _ _ (h6B hl).1 (h6B hl').1 hb hb'
end
end Go.Rx
namespace Go.Rx
noncomputable def h5C (T : Tab) (E : List (Nat × v2A)) (depth : Nat) (fn : Func) (body : Code) (ann : Ann) (args : List AV) (outs : List (Bool × Ty)) : Option (f5A outs) :=
 e5A T (r6A T E depth) body ann ⟨i2A args (u9A (.tup []) (fn.ntmps - g2B args)), [], 0⟩ fun e S' => match e with
  | .exit _ => none
  | _ => match x5A S' fn.results.toList T with
   | some vs => match m2A outs vs S'.objs with
    | some (y, _) => some y
    | none => none
   | none => none
section
variable {P : Program} {T : Tab} (hT : TabOK P T)
include hT
theorem f0H (hP : P.follows .mixedOrders = true) {Es : List (Nat × v2A)} {depth : Nat} (hH : HOK P (r6A T Es depth)) {f : FuncId} {F : Func} {body : Code} (hf : P.funcs[f]? = some F) (hb : F.body = some body) (hname : (F.name == "runtime.NumGoroutine") = false)
  {an : Ann} {t : Ty} (ht : t.pure = true) {outs : List (Bool × Ty)} {fn : List (den t) → Option (f5A outs)} (h1 : h5C T Es depth F body an [.nilsl] outs = fn []) (h2 : ∀ l, h5C T Es depth F body an [.slv t l] outs = fn l) :
  a4A P f [(false, .sl t)] outs fn := by
 refine ⟨⟨F, hf, hname, by rw [hb]; rfl⟩, fun x y hxy keep E vs vals objs objs' hm hr hp => ?_⟩
 match vs, hr, hp with
 | [v], hr, hp =>
  obtain ⟨xv, r, rfl, r1, r2⟩ := hr
  have r2 : r = [] := r2
  subst r2
  obtain ⟨E1, g, m1, t1, l1, hB⟩ := o3D (t := (false, .sl t)) (by simpa [Ty.pure] using ht) hm r1 hp
  have hx1 : a8A E1 (.sl t) x [xv] := hB (m := ⟨[], 0⟩) t1
  let B : Env := { E1 with N := 0 }
  have hx2 : a8A B (.sl t) x [xv] := a8A.same (A := E1) (B := B) rfl rfl hx1
  have hwB : B.w = E.w := g.w
  have hlive : ∀ b, h4A E objs' b → h4A E1 objs' b := fun b ⟨id, oc, h1, h2⟩ => ⟨id, oc, h1, by rw [g.M]; exact h2⟩
  have hmB : b1A B (fun b => keep b ∨ h4A E objs' b) [] :=
   ⟨fun id oc h => (nomatch h), fun id oc b h => (nomatch h), fun id id' oc oc' b h => (nomatch h), m1.rob, fun b hb => hb.elim (m1.kb b) fun hc => by
    obtain ⟨id, oc, h3, h4⟩ := hlive b hc
    exact x8A (E := E1) (m1.rep _ _ h3).2 h4⟩
  have fin : ∀ (a : AV), b0A B a xv → h5C T Es depth F body an [a] outs = some y → Calls P f [xv].toArray E.w fun e w' => ∃ us v ob ob' E', e = .returned v ∧ E'.w = w' ∧ l3B E' us v ∧ b1A E' (fun b => keep b ∨ h4A E objs' b) ob ∧ m2A outs us ob = some (y, ob') ∧
    o7F (fun b => keep b ∨ h4A E objs' b) E E' := by
   intro a ha he
   unfold h5C at he
   rw [← hwB]
   refine (g8E (K := fun vs S' => match m2A outs vs S'.objs with
    | some (y, _) => some y
    | none => none) hT hP hH hf hb he hmB rfl ⟨xv, [], rfl, ha, rfl⟩).mono ?_
   rintro e w' ⟨us, v, S', E', rfl, rfl, hL, hM, hN, hres, hk⟩
   split at hk
   ·rename_i y' ob' hpk
    cases hk
    refine ⟨us, v, S'.objs, ob', E', rfl, rfl, hres, hM, hpk, ⟨by rw [← hwB]; exact hL.out, fun b hb => hL.ro b (g.later.ro b hb), fun b hb => ?_, ?_, fun b hb => ?_, fun b hb => ?_⟩⟩
    ·rcases hL.roN b hb with hb | hb
     ·rcases g.later.roN b hb with h3 | h3
      ·exact .inl h3
      ·exact .inr fun hc => hc.elim h3 fun hc => by
        obtain ⟨id, oc, h4, h5⟩ := hlive b hc
        exact (m1.sep _ _ _ h4 h5).1 hb
     ·exact .inr hb
    ·rw [← hwB]; exact hL.size
    ·rw [← hwB]; exact hL.heapRo b (g.later.ro b hb)
    ·rw [← hwB]; exact hL.heapKeep b hb
   ·cases hk
  obtain ⟨a, cap, e1, ⟨hc, hn⟩, hrest⟩ := hx2
  have e1 : xv = .slice a x.length cap := by simpa using e1
  cases a with
  | none =>
   have hx0 : x.length = 0 := hrest.elim id fun ⟨_, _, h, _⟩ => (nomatch h)
   have hxe : x = [] := List.length_eq_zero_iff.1 hx0
   have hcap := hn rfl
   refine fin .nilsl ?_ ?_
   ·show [xv] = _
    rw [e1, hx0, hcap]
   ·rw [h1, ← hxe]; exact hxy
  | some a =>
   refine fin (.slv t x) ?_ ?_
   ·exact ⟨a8A.same (A := E1) (B := B) rfl rfl hx1, a, x.length, cap, by rw [e1]⟩
   ·rw [h2]; exact hxy
end
end Go.Rx
namespace Go.Rx
theorem r1F {P : Program} {f : FuncId} {F : Func} (hf : P.funcs[f]? = some F) (hname : (F.name == "runtime.NumGoroutine") = false) (hb : F.body.isNone = true) (hn : Extern.findNext F = none)
  (he : Extern.find F = some add64Entry) : w9C P f (.ext p0D) := by
 intro E args vals v h hr
 unfold p0D at h
 split at h
 ·rename_i x y c
  rcases f1A h with ⟨hc, h⟩ | ⟨_, h⟩
  ·obtain ⟨v1, r1, e1, s1, t1⟩ := hr
   obtain ⟨v2, r2, e2, s2, t2⟩ := t1
   obtain ⟨v3, r3, e3, s3, t3⟩ := t2
   have hc : c = 0 := by simpa using hc
   have s1 : v1 = .int .u64 x := by simpa [b0A, e7A, b8A] using s1
   have s2 : v2 = .int .u64 y := by simpa [b0A, e7A, b8A] using s2
   have s3 : v3 = .int .u64 c := by simpa [b0A, e7A, b8A] using s3
   have t3 : r3 = [] := t3
   subst e1 e2 e3 s1 s2 s3 t3 hc
   cases h
   refine ⟨.tuple #[.int .u64 (((x.toNat + y.toNat) % 18446744073709551616 : Nat) : Int), .int .u64 (((x.toNat + y.toNat) / 18446744073709551616 : Nat) : Int)], ?_, ?_⟩
   ·rw [run_callFunc_extern hf hname hb hn he]
    rfl
   ·exact ⟨_, rfl, _, _, rfl, rfl, _, _, rfl, rfl, rfl⟩
  ·cases h
 ·cases h
end Go.Rx
namespace Go.Rx
def wf : (t : Ty) → den t → Prop
 | .int k, x => k.min ≤ x ∧ x ≤ k.max
 | .bool, _ => True
 | .str, s => s.size ≤ maxLen
 | .sl t, l => l.length ≤ maxLen ∧ ∀ x ∈ l, wf t x
 | .own t, l => l.length ≤ maxLen ∧ ∀ x ∈ l, wf t x
 | .unit, _ => True
 | .pair a b, x => wf a x.1 ∧ wf b x.2
 | .arr n t, l => l.length = n ∧ ∀ x ∈ l, wf t x
def wfL : (l : List (Bool × Ty)) → f5A l → Prop
 | [], _ => True
 | [t], x => wf t.2 x
 | t :: t' :: r, x => wf t.2 x.1 ∧ wfL (t' :: r) x.2
def x0C (P : Program) (r : TypeId → Ty → Bool) : List Field → Nat → Ty → Bool
 | [], _, ty => match ty with
  | .unit => true
  | _ => false
 | f :: l, off, ty => match l with
  | [] => Nat.beq f.offset off && r f.type ty && Nat.beq (P.cellsOf f.type) (a0A ty)
  | _ :: _ => match ty with
   | .pair a b => Nat.beq f.offset off && r f.type a && Nat.beq (P.cellsOf f.type) (a0A a) && x0C P r l (off + a0A a) b
   | _ => false
def h6C (P : Program) : Nat → TypeId → Ty → Bool
 | 0, _, _ => false
 | n + 1, t, ty => match P.underlying t with
  | some .bool => (match ty with
   | .bool => true
   | _ => false)
  | some (.int k) => (match ty with
   | .int k' => decide (k = k')
   | _ => false)
  | some .string => (match ty with
   | .str => true
   | _ => false)
  | some (.slice e) => (match ty with
   | .sl t' => h6C P n e t' && Nat.beq (P.cellsOf e) (a0A t') && Nat.blt 0 (a0A t')
   | _ => false)
  | some (.array m e) => (match ty with
   | .arr m' t' => Nat.beq m m' && h6C P n e t' && Nat.beq (P.cellsOf e) (a0A t') && Nat.beq (P.cellsOf t) (m * a0A t')
   | _ => false)
  | some (.struct fs) => x0C P (h6C P n) fs.toList 0 ty && Nat.beq (P.cellsOf t) (a0A ty)
  | _ => false
theorem p5F {α β : Type} {f : α → Option β} : ∀ {l : List α} {r : List β}, l.mapM f = some r → r.length = l.length ∧ ∀ (i : Nat) (a : α), l[i]? = some a → ∃ y, f a = some y ∧ r[i]? = some y
 | [], r, h => by
  simp only [List.mapM_nil] at h
  cases h
  exact ⟨rfl, fun i a h => by simp at h⟩
 | a :: l, r, h => by
  rw [List.mapM_cons] at h
  cases hf : f a with
  | none => rw [hf] at h; cases h
  | some y =>
   rw [hf] at h
   cases hl : l.mapM f with
   | none => rw [hl] at h; cases h
   | some ys =>
    rw [hl] at h
    cases h
    obtain ⟨h1, h2⟩ := p5F hl
    refine ⟨by simp [h1], fun i b hb => ?_⟩
    cases i with
    | zero => cases hb; exact ⟨y, hf, rfl⟩
    | succ i => exact h2 i b (by simpa using hb)
theorem h4E {α : Type} {p : Nat → α → Prop} : ∀ (n : Nat), (∀ i, i < n → ∃ x, p i x) → ∃ l : List α, l.length = n ∧ ∀ i, (h : i < l.length) → p i l[i]
 | 0, _ => ⟨[], rfl, fun i h => absurd h (Nat.not_lt_zero _)⟩
 | n + 1, h => by
  obtain ⟨l, hl, hp⟩ := h4E n fun i hi => h i (Nat.lt_succ_of_lt hi)
  obtain ⟨x, hx⟩ := h n (Nat.lt_succ_self _)
  refine ⟨l ++ [x], by simp [hl], fun i hi => ?_⟩
  rcases Nat.lt_or_ge i l.length with h' | h'
  ·rw [List.getElem_append_left h']; exact hp i h'
  ·have : i = n := by simp at hi; omega
   subst this
   rw [List.getElem_append_right h']
   simpa [hl] using hx
theorem p6F {α : Type} {q : α → Prop} {l : List α} (h : ∀ i, (hi : i < l.length) → q l[i]) : ∀ x ∈ l, q x := by
 intro x hx
 obtain ⟨i, hi, e⟩ := List.getElem_of_mem hx
 rw [← e]; exact h i hi
section
variable {H : Type} {enc : TypeId × Value → H} {P : Program} {E : Env} {base : Nat} {spare : Nat → Bool} {held : Bool}
theorem p7F {fuel : Nat} {r : TypeId → Ty → Bool} {cs : List Value}
  (ih : ∀ {t : TypeId} {ty : Ty} {vs : List Value} {d : DataW H × List MemPlace}, r t ty = true → DataW.trod enc P E.w base spare held fuel t vs = some d → ∃ x : den ty, a8A E ty x vs ∧ wf ty x) :
  ∀ (fs : List Field) (off : Nat) (ty : Ty), x0C P r fs off ty = true → (∀ f ∈ fs, ∃ y, DataW.trod enc P E.w base spare held fuel f.type ((cs.drop f.offset).take (P.cellsOf f.type)) = some y) →
   cs.length = off + a0A ty → ∃ x : den ty, a8A E ty x (cs.drop off) ∧ wf ty x
 | [], off, ty, h, _, hl => by
  cases ty with
  | unit =>
   refine ⟨(), ?_, trivial⟩
   show cs.drop off = []
   exact List.drop_eq_nil_of_le (by rw [hl]; exact Nat.le_refl _)
  | _ => cases h
 | [f], off, ty, h, hf, hl => by
  simp only [x0C, Bool.and_eq_true] at h
  obtain ⟨⟨h1, h2⟩, h3⟩ := h
  obtain ⟨y, hy⟩ := hf f List.mem_cons_self
  rw [Nat.eq_of_beq_eq_true h1, Nat.eq_of_beq_eq_true h3, List.take_of_length_le (by rw [List.length_drop, hl]; omega)] at hy
  exact ih h2 hy
 | f :: g :: l, off, ty, h, hf, hl => by
  cases ty with
  | pair a b =>
   simp only [x0C, Bool.and_eq_true] at h
   obtain ⟨⟨⟨h1, h2⟩, h3⟩, h4⟩ := h
   obtain ⟨y, hy⟩ := hf f List.mem_cons_self
   rw [Nat.eq_of_beq_eq_true h1, Nat.eq_of_beq_eq_true h3] at hy
   obtain ⟨x, hx, wx⟩ := ih h2 hy
   obtain ⟨z, hz, wz⟩ := p7F ih (g :: l) (off + a0A a) b h4 (fun f' hf' => hf f' (List.mem_cons_of_mem _ hf')) (by rw [hl]; simp only [a0A]; omega)
   refine ⟨(x, z), ⟨(cs.drop off).take (a0A a), cs.drop (off + a0A a), ?_, hx, hz⟩, wx, wz⟩
   rw [← List.drop_drop, List.take_append_drop]
  | _ => cases h
theorem p8F {a : Addr} {n : Nat} {cs : List Value} (h : E.w.cells? base a n = some cs) : cs.length = n ∧ ∀ j v, cs[j]? = some v → E.w.cell? (a.add j) = some v := by
 unfold World.cells? at h
 split at h
 ·obtain ⟨h1, h2⟩ := p5F h
  rw [List.length_range] at h1
  refine ⟨h1, fun j v hj => ?_⟩
  have hlt : j < n := by rw [← h1]; exact (List.getElem?_eq_some_iff.1 hj).1
  obtain ⟨y, h3, h4⟩ := h2 j j (by simp [hlt])
  rw [hj] at h4; cases h4
  exact h3
 ·cases h
theorem f1H {b o : Nat} (n m : Nat) : ((⟨b, o, none⟩ : Addr).add n).add m = ⟨b, o + n + m, none⟩ := by
 unfold Addr.add
 split <;> split <;> simp_all
theorem o5D (hro : ∀ b, b < E.w.heap.size → E.ro b) : ∀ (n fuel : Nat) {t : TypeId} {ty : Ty} {cs : List Value} {d : DataW H × List MemPlace}, h6C P n t ty = true → DataW.trod enc P E.w base spare held fuel t cs = some d →
  ∃ x : den ty, a8A E ty x cs ∧ wf ty x
 | 0, _, _, _, _, _, h, _ => nomatch h
 | n + 1, fuel, t, ty, cs, d, h, hd => by
  unfold h6C at h
  split at h
  ·rename_i hu
   obtain ⟨b, rfl, _⟩ := DataW.trod_bool hu hd
   cases ty with
   | bool => exact ⟨b, rfl, trivial⟩
   | _ => cases h
  ·rename_i k hu
   obtain ⟨m, rfl, _, hw⟩ := DataW.trod_int hu hd
   cases ty with
   | int k' =>
    have hk : k = k' := of_decide_eq_true h
    subst hk
    refine ⟨m, rfl, ?_⟩
    simpa [Lit.wf, wf] using hw
   | _ => cases h
  ·rename_i hu
   obtain ⟨s, rfl, _, hs⟩ := DataW.trod_string hu hd
   cases ty with
   | str => exact ⟨s, rfl, hs⟩
   | _ => cases h
  ·rename_i e hu
   cases ty with
   | sl t' =>
    simp only [Bool.and_eq_true] at h
    obtain ⟨⟨h1, h2⟩, h3⟩ := h
    have h2 := Nat.eq_of_beq_eq_true h2
    have h3 : 0 < a0A t' := by simpa [Nat.blt_eq] using h3
    rcases DataW.trod_slice hu hd with ⟨rfl, _⟩ | ⟨a, len, cap, elems, rest, m, _, rfl, _, hb, hlc, hcm, hel, hget, _⟩
    ·exact ⟨[], ⟨none, 0, rfl, ⟨Nat.le_refl _, fun _ => rfl⟩, .inl rfl⟩, Nat.zero_le _, fun x hx => nomatch hx⟩
    ·rw [h2] at hget
     have each : ∀ i, i < len → ∃ cs', E.w.cells? base (a.add (i * a0A t')) (a0A t') = some cs' ∧ ∃ x : den t', a8A E t' x cs' ∧ wf t' x := by
      intro i hi
      have := hget i hi
      have hlt : i < elems.length := by rw [hel]; exact hi
      rw [List.getElem?_eq_getElem hlt, Option.bind_eq_some_iff] at this
      obtain ⟨cs', h4, h5⟩ := this
      exact ⟨cs', h4, o5D hro n m h1 h5⟩
     obtain ⟨l, hl, hp⟩ := h4E (p := fun i (x : den t') => ∃ cs', E.w.cells? base (a.add (i * a0A t')) (a0A t') = some cs' ∧ a8A E t' x cs' ∧ wf t' x) len fun i hi => by
      obtain ⟨cs', h4, x, h5, h6⟩ := each i hi
      exact ⟨x, cs', h4, h5, h6⟩
     refine ⟨l, ⟨some a, cap, by rw [hl], ⟨by rw [hl]; exact hlc, fun h => nomatch h⟩, ?_⟩, by rw [hl]; omega, p6F fun i hi => (hp i hi).choose_spec.2.2⟩
     rcases Nat.eq_zero_or_pos l.length with h0 | h0
     ·exact .inl h0
     ·right
      obtain ⟨cs', h4, h5, _⟩ := hp 0 h0
      obtain ⟨h6, h7⟩ := p8F h4
      have h8 := h7 0 (cs'[0]'(by omega)) (List.getElem?_eq_getElem _)
      have ha : a.spot = none ∧ a.block < E.w.heap.size := by
       simp only [Nat.zero_mul, Addr.add, if_true, World.cell?] at h8
       split at h8
       ·rename_i c _ _ hc
        split at h8
        ·cases h8
        ·rename_i hs
         exact ⟨by simpa using hs, (Array.getElem?_eq_some_iff.1 hc).1⟩
       ·cases h8
      obtain ⟨b, o, sp⟩ := a
      obtain ⟨rfl, hlt⟩ := ha
      refine ⟨b, o, rfl, hro b hlt, fun i hi => ?_⟩
      obtain ⟨cs', h4, h5, _⟩ := hp i hi
      refine ⟨cs', h5, fun j v hj => ?_⟩
      have := (p8F h4).2 j v hj
      rwa [f1H] at this
   | _ => cases h
  ·rename_i m e hu
   cases ty with
   | arr m' t' =>
    simp only [Bool.and_eq_true] at h
    obtain ⟨⟨⟨h0, h1⟩, h2⟩, h3⟩ := h
    have h0 := Nat.eq_of_beq_eq_true h0
    have h2 := Nat.eq_of_beq_eq_true h2
    have h3 := Nat.eq_of_beq_eq_true h3
    subst h0
    obtain ⟨xs, f, _, _, hlen, hx, hget⟩ := DataW.trod_array hu hd
    rw [h2] at hget
    obtain ⟨l, hl, hp⟩ := h4E (p := fun i (x : den t') => a8A E t' x ((cs.drop (i * a0A t')).take (a0A t')) ∧ wf t' x) m fun i hi => by
     have := hget i hi
     have hlt : i < xs.length := by rw [hx]; exact hi
     rw [List.getElem?_eq_getElem hlt] at this
     exact o5D hro n f h1 this
    refine ⟨l, ⟨hl, by rw [hlen, h3], fun i hi => ⟨_, (hp i hi).1, fun j v hj => ?_⟩⟩, hl, p6F fun i hi => (hp i hi).2⟩
    rw [List.getElem?_take] at hj
    split at hj
    ·rwa [List.getElem?_drop] at hj
    ·cases hj
   | _ => cases h
  ·rename_i fs hu
   simp only [Bool.and_eq_true] at h
   obtain ⟨h1, h2⟩ := h
   obtain ⟨xs, f, _, _, hlen, hx, hget⟩ := DataW.trod_struct hu hd
   have := p7F (enc := enc) (P := P) (E := E) (base := base) (spare := spare) (held := held) (fuel := f) (cs := cs) (fun {t ty vs d} h3 h4 => o5D hro n f h3 h4) fs.toList 0 ty h1 (fun fl hfl => by
    obtain ⟨i, hi, e⟩ := List.getElem_of_mem hfl
    have h5 : fs[i]? = some fl := by rw [← e]; simp at hi ⊢
    have h6 := hget i fl h5
    have h7 : i < xs.length := by rw [hx]; simpa using hi
    rw [List.getElem?_eq_getElem h7] at h6
    exact ⟨_, h6⟩) (by rw [hlen, Nat.zero_add]; exact Nat.eq_of_beq_eq_true h2)
   simpa using this
  ·cases h
def h5E (P : Program) (t : TypeId) : Bool :=
 match P.underlying t with
 | some (.struct _) => true
 | some (.array ..) => true
 | _ => false
def h6E (P : Program) (n : Nat) (t : TypeId) (a : Bool × Ty) : Bool :=
 h6C P n t a.2 && a.2.pure && a.2.okp && (a.1 || a.2.scalar) && (h5E P t == a.1)
def x3B (P : Program) (n : Nat) : List TypeId → List (Bool × Ty) → Bool
 | [], [] => true
 | t :: ts, a :: l => h6E P n t a && x3B P n ts l
 | _, _ => false
theorem p9F (hro : ∀ b, b < E.w.heap.size → E.ro b) {n : Nat} {t : TypeId} {a : Bool × Ty} {v : Value} {d : DataW H} {p : List MemPlace} {m : Mem} {r : Reach} {w : World} {b0 : Nat} {ob : Objs} (h : h6E P n t a = true)
  (hv : Value.okWide P w r b0 t v) (hd : DataW.Trod enc P E.w base spare held t v d p) : ∃ x : den a.2, wf a.2 x ∧ b0A E (k2A a x m).1 v ∧ s7A a (k2A a x m).1 ob = some (x, ob) ∧ (k2A a x m).2 = m := by
 obtain ⟨agg, ty⟩ := a
 simp only [h6E, Bool.and_eq_true] at h
 obtain ⟨⟨⟨⟨h1, h2⟩, h3⟩, h4⟩, h5⟩ := h
 obtain ⟨fuel, hd⟩ := hd
 obtain ⟨x, hx, wx⟩ := o5D hro n fuel h1 hd
 have hl := q6B ty x m h2
 have henc := o4D ty x [] ob h2
 rw [h0E] at henc
 refine ⟨x, wx, ?_, ?_, by show (c4A ty x m).2 = m; rw [hl]⟩
 ·cases agg with
  | true =>
   have : ∃ cs, v = .agg cs := by
    unfold h5E at h5
    unfold Value.okWide at hv
    split at h5
    ·rename_i fs hu
     rw [hu] at hv
     obtain ⟨cs, e, _⟩ := hv
     exact ⟨cs, e⟩
    ·rename_i hu
     rw [hu] at hv
     obtain ⟨cs, e, _⟩ := hv
     exact ⟨cs, e⟩
    ·cases h5
   obtain ⟨cs, rfl⟩ := this
   have he : (k2A (true, ty) x m).1 = .agg (Rx.enc ty x) := by show AV.agg (c4A ty x m).1 = _; rw [hl]
   rw [he]
   exact ⟨cs.toList, by simp, a8B hx⟩
  | false =>
   have hsc : ty.scalar = true := by simpa using h4
   obtain ⟨c, ec, hcell⟩ := v8C (x := x) (m := m) hsc
   have he : (k2A (false, ty) x m).1 = c := by show u8A (c4A ty x m).1 = c; rw [ec]; rfl
   have hvc : v.cells = #[v] := by
    unfold h5E at h5
    cases v with
    | agg cs =>
     exfalso
     unfold Value.okWide at hv
     split at h5
     ·cases h5
     ·cases h5
     ·rename_i q1 q2
      cases hu : P.underlying t with
      | none => rw [hu] at hv; simp [Cell.okWide, Cell.ok, hu] at hv
      | some u =>
       rw [hu] at hv
       cases u <;> first
        | exact q1 _ hu
        | exact q2 _ _ hu
        | simp [Cell.okWide, Cell.ok, hu] at hv
    | _ => rfl
   rw [he]
   rw [hvc] at hx
   have h6 := a8B hx
   have h7 : Rx.enc ty x = [c] := by rw [← ec, hl]
   rw [h7] at h6
   obtain ⟨u, r', e1, e2, e3⟩ := h6
   have e3 : r' = [] := e3
   rw [e3, List.append_nil] at e1
   rw [← e1] at e2
   have e2 : b8A E c [v] := by simpa using e2
   exact (b8A.toV e2 (by cases c <;> first | rfl | (simp [s6A] at hcell)) (fun n t l e => by rw [e] at hcell; simp [s6A] at hcell)).toS
 ·show (bif ty.okp && x3A agg (if agg then .agg (c4A ty x m).1 else u8A (c4A ty x m).1) && (agg || ty.scalar) then o8A ty (if agg then .agg (c4A ty x m).1 else u8A (c4A ty x m).1) ob else none) = some (x, ob)
  cases agg with
  | true => simp [h3, x3A, o8A, p9A, hl, henc]
  | false =>
   have hsc : ty.scalar = true := by simpa using h4
   obtain ⟨c, ec, hcell⟩ := v8C (x := x) (m := m) hsc
   rw [← show (c4A ty x m).1 = Rx.enc ty x from by rw [hl], ec] at henc
   have hco : p9A c = some [c] := by cases c <;> first | (simp [s6A] at hcell; done) | rfl
   have hfi : x3A false c = true := by cases c <;> first | (simp [s6A] at hcell; done) | rfl
   simp [h3, hsc, ec, u8A, hfi, o8A, hco, henc]
theorem q0F (hro : ∀ b, b < E.w.heap.size → E.ro b) {n : Nat} {r : Reach} {w : World} {b0 : Nat} {m : Mem} {ob : Objs} : ∀ {ts : List TypeId} {ins : List (Bool × Ty)} {vs : List Value} {ds : List (DataW H)} {ps : List MemPlace}, x3B P n ts ins = true →
  (∀ (j : Nat) t v, ts[j]? = some t → vs[j]? = some v → Value.okWide P w r b0 t v) → DataW.TrodAll enc P E.w base spare held ts vs ds ps →
   ∃ x : f5A ins, wfL ins x ∧ e6A E (m3A ins x m).1 vs ∧ m2A ins (m3A ins x m).1 ob = some (x, ob)
 | [], [], [], _, _, _, _, _ => ⟨(), trivial, rfl, rfl⟩
 | [t], [a], [v], [d], _, h, hv, hd => by
  obtain ⟨p, q, h1, h2, _⟩ := hd
  simp only [x3B, Bool.and_eq_true] at h
  obtain ⟨x, w1, w2, w3, _⟩ := p9F (m := m) (ob := ob) hro h.1 (hv 0 t v rfl rfl) h1
  exact ⟨x, w1, ⟨v, [], rfl, w2, rfl⟩, w3⟩
 | t :: t' :: ts, a :: a' :: l, v :: vs, d :: ds, _, h, hv, hd => by
  obtain ⟨p, q, h1, h2, _⟩ := hd
  rw [x3B, Bool.and_eq_true] at h
  obtain ⟨x, w1, w2, w3, w4⟩ := p9F (m := m) (ob := ob) hro h.1 (hv 0 t v rfl rfl) h1
  obtain ⟨y, y1, y2, y3⟩ := q0F (m := m) (ob := ob) hro h.2 (fun j t v h h' => hv (j + 1) t v (by simpa using h) (by simpa using h')) h2
  refine ⟨(x, y), ⟨w1, y1⟩, ?_, ?_⟩
  ·show e6A E ((k2A a x m).1 :: (m3A (a' :: l) y (k2A a x m).2).1) (v :: vs)
   rw [w4]
   exact ⟨v, vs, rfl, w2, y2⟩
  ·show m2A (a :: a' :: l) ((k2A a x m).1 :: (m3A (a' :: l) y (k2A a x m).2).1) ob = some ((x, y), ob)
   rw [w4]
   simp only [m2A, w3, y3]
 | [], _ :: _, _, _, _, h, _, _ => nomatch h
 | _ :: _, [], _, _, _, h, _, _ => nomatch h
 | [], [], _ :: _, [], _, _, _, h => nomatch h
 | [], [], _ :: _, _ :: _, _, _, _, h => nomatch h
 | _ :: _, _ :: _, [], [], _, _, _, h => nomatch h
 | _ :: _, _ :: _, [], _ :: _, _, _, _, h => nomatch h
 | _ :: _, _ :: _, _ :: _, [], _, _, _, h => nomatch h
 | [_], _ :: _ :: _, _ :: _, _ :: _, _, h, _, _ => by simp [x3B] at h
 | _ :: _ :: _, [_], _ :: _, _ :: _, _, h, _, _ => by simp [x3B] at h
 | [_], [_], _ :: _ :: _, [_], _, _, _, h => by obtain ⟨_, _, _, h, _⟩ := h; exact h.elim
 | [_], [_], _ :: _ :: _, _ :: _ :: _, _, _, _, h => by obtain ⟨_, _, _, h, _⟩ := h; exact h.elim
 | [_], [_], [_], _ :: _ :: _, _, _, _, h => by obtain ⟨_, _, _, h, _⟩ := h; exact h.elim
theorem f2H {f : Func} {s : ChangeSpec} {j9A handsOn again : Bool} {W W' : World} {args : Array Value} {ds : List (DataW H)} {before : List MemPlace} {tb : TypeId} (hl : laidOutB P = true)
  (hread : f.params.toList.all (fun t => P.readableRec t && decide (t < P.types.size)) = true) (hvars : s.vars = [])
  (hW : DataW.Whole enc P f.params.toList [] false W args.toList ds [] before) (hs : s.fn H (ds ++ []) = { results := [.lit (.bool true)], args := ds })
  (hsame : ∀ b, b < W.heap.size → W'.heap[b]? = W.heap[b]?) (hq : h3A W W') (hr : f.resultTypes = #[tb]) (hb : P.underlying tb = some .bool) :
  s.post enc P f false j9A handsOn again W args (.bool true) W' := by
 have hlt : ∀ p ∈ before, p.block < W.heap.size := fun p hp => hW.lt p hp
 obtain ⟨p, q, hA, hV, e, hz, hn⟩ := hW
 have hq0 : q = [] := hV
 subst hq0
 rw [List.append_nil] at e
 have e : p = before := e.symm
 subst e
 have key : ∀ {ts : List TypeId} {vs : List Value} {ds : List (DataW H)} {ps : List MemPlace} {sp : Nat → Bool}, (∀ t ∈ ts, P.readableRec t = true ∧ t < P.types.size) → (∀ p ∈ ps, p.block < W.heap.size) → (∀ p ∈ ps, sp p.block = true) →
   DataW.TrodAll enc P W 0 (fun _ => true) true ts vs ds ps → DataW.TrodAll enc P W' 0 sp true ts vs ds ps := by
  intro ts
  induction ts with
  | nil =>
   intro vs ds ps sp _ _ _ h
   match vs, ds, h with
   | [], [], h => exact h
  | cons t ts ih =>
   intro vs ds ps sp ht hp hsp h
   match vs, ds, h with
   | v :: vs, d :: ds, ⟨p1, q1, h1, h2, e⟩ =>
    subst e
    obtain ⟨g1, g2⟩ := ht t List.mem_cons_self
    refine ⟨p1, q1, WideElems.Trod_stays hl g1 g2 h1 (fun x hx => ?_) (fun x hx => hsp x (List.mem_append_left _ hx)), ih (fun t h => ht t (List.mem_cons_of_mem _ h)) (fun x hx => hp x (List.mem_append_right _ hx)) (fun x hx => hsp x (List.mem_append_right _ hx)) h2, rfl⟩
    have hx' := hp x (List.mem_append_left _ hx)
    cases x with
    | cell b o => exact World.cell?_of_block (w := W) (hsame b hx')
    | map b => exact hsame b hx'
 have hts : ∀ t ∈ f.params.toList, P.readableRec t = true ∧ t < P.types.size := fun t ht => by
  have := List.all_eq_true.1 hread t ht
  simpa using this
 have hargs : ∀ sp : Nat → Bool, (∀ x ∈ p, sp x.block = true) → DataW.TrodAll enc P W' 0 sp true f.params.toList args.toList (s.fn H (ds ++ [])).args p := fun sp hsp => by
  rw [hs]; exact key hts hlt hsp hA
 have hres : ∀ (b : Nat) (sp : Nat → Bool) (hd : Bool), DataW.TrodAll enc P W' b sp hd f.resultTypes.toList ((Value.bool true).resultList f.resultTypes.size) (s.fn H (ds ++ [])).results [] := fun b sp hd => by
  rw [hs, hr]
  exact ⟨[], [], RowKit.shut_bool hb true, rfl, rfl⟩
 have hold : ∀ x ∈ p, (fun b => decide (b < W.heap.size)) x.block = true := fun x hx => by simpa using hlt x hx
 have hvv : ∀ sp : Nat → Bool, DataW.TrodVars enc P W' sp s.vars (s.fn H (ds ++ [])).vars [] := fun sp => by rw [hs, hvars]; exact rfl
 refine ⟨ds, [], p, [], p, [], ?_, hres _ _ _, hargs _ hold, hvv _, ⟨hq.1, hq.2, fun i hi => ?_⟩, fun _ => ?_⟩
 ·rw [hvars]
  exact ⟨p, [], hA, rfl, by simp, hz, hn⟩
 ·rw [hsame i hi]
  cases W.heap[i]? with
  | none => rfl
  | some o => cases o <;> simp
 ·refine ⟨RowKit.ok_one hr rfl (by simp [Value.okWide, Cell.okWide, Cell.ok, hb]), _, _, ([] ++ p) ++ [], ⟨[] ++ p, [], ChangeShapes.trodAll_append (hargs _ (fun _ _ => rfl)) (hres _ _ _), hvv _, rfl, ?_, ?_⟩, ?_⟩
  ·intro b off hp
   have hp : MemPlace.cell b off ∈ p := by simpa using hp
   have h1 := hlt _ hp
   have h2 := hz b off hp
   unfold World.frozen? at h2 ⊢
   rw [hsame b h1]
   exact h2
  ·intro ha; cases ha
  ·intro x hx _
   simpa using hx
def h7E (P : Program) : List (Nat × v2A) → Prop
 | [] => True
 | (f, c) :: l => w9C P f c ∧ h7E P l
theorem h8E : ∀ {l : List (Nat × v2A)}, h7E P l → ∀ f c, g9B f l = some c → w9C P f c
 | [], _, f, c, h => nomatch h
 | (j, d) :: l, hl, f, c, h => by
  simp only [g9B] at h
  rcases f1A h with ⟨h0, h⟩ | ⟨_, h⟩
  ·cases h
   rw [← Nat.eq_of_beq_eq_true h0]
   exact hl.1
  ·exact h8E hl.2 f c h
theorem w5F {f : FuncId} {F : Func} {ins : List (Bool × Ty)} {fn : f5A ins → Option Bool} (hC : a4A P f ins [(false, .bool)] fn) {n : Nat} (hreads : x3B P n F.params.toList ins = true)
  (hlaw : ∀ x, wfL ins x → fn x = some true) (hl : laidOutB P = true) (hread : F.params.toList.all (fun t => P.readableRec t && decide (t < P.types.size)) = true) {tb : TypeId} (hr : F.resultTypes = #[tb])
  (hb : P.underlying tb = some .bool) {s : ChangeSpec} (hvars : s.vars = []) (hs : ∀ ds : List (DataW H), ds.length = F.params.size → s.fn H ds = { results := [.lit (.bool true)], args := ds })
  {W : World} {base : Nat} {args : Array Value} {ds gs : List (DataW H)} {before : List MemPlace} {j9A handsOn again : Bool}
  (hval : ∀ (j : Nat) t v, F.params[j]? = some t → args[j]? = some v → Value.okWide P W .any base t v)
  (hW : DataW.Whole enc P F.params.toList s.vars false W args.toList ds gs before) :
  Calls P f args W fun e W' => ∃ v, e = .returned v ∧ s.post enc P F false j9A handsOn again W args v W' := by
 rw [hvars] at hW
 have hW0 := hW
 obtain ⟨p, q, hA, hV, e, hz, hn⟩ := hW
 have hgs : gs = [] := by
  cases gs with
  | nil => rfl
  | cons => cases hV
 subst hgs
 let E0 : Env := { w := W, ro := fun b => b < W.heap.size, M := fun _ => ⟨none, 0, 0, 0, 0⟩, N := 0 }
 obtain ⟨x, wx, hrep, hpk⟩ := q0F (E := E0) (m := ⟨[], 0⟩) (ob := []) (fun b hb => hb) hreads (fun j t v h1 h2 => hval j t v (by simpa using h1) (by simpa using h2)) hA
 have hm : b1A E0 (fun _ => False) [] := ⟨fun id oc h => (nomatch h), fun id oc b h => (nomatch h), fun id id' oc oc' b h => (nomatch h), fun b h => h, fun b h => h.elim⟩
 have hcall := hC.ok x true (hlaw x wx) (fun _ => False) E0 _ args.toList [] [] hm hrep hpk
 have hargs : args.toList.toArray = args := by simp
 rw [hargs] at hcall
 refine hcall.mono ?_
 rintro ex W' ⟨us, v, ob, ob', E', rfl, rfl, hres, _, hpk', hF⟩
 have hv : v = .bool true := by
  obtain ⟨vs, h1, h2⟩ := hres
  match us, h1, hpk' with
  | [a], h1, hpk' =>
   obtain ⟨x, r, rfl, r1, r2⟩ := h1
   have r2 : r = [] := r2
   subst r2
   have h3 : v = x := by rw [h2]; simp
   subst h3
   simp only [m2A, s7A] at hpk'
   rcases f1A hpk' with ⟨h0, h4⟩ | ⟨_, h4⟩
   ·cases a with
    | bool b =>
     simp [o8A, p9A, c0A] at h4
     rw [← h4.1]
     have : b8A E' (.bool b) [v] := r1
     have h5 : [v] = [Value.bool b] := this
     simpa using h5
    | agg cs => simp [x3A] at h0
    | _ => simp [o8A, p9A, c0A] at h4
   ·cases h4
 subst hv
 have hlen : ds.length = F.params.size := by
  have : ∀ {ts : List TypeId} {vs : List Value} {ds : List (DataW H)} {ps : List MemPlace}, DataW.TrodAll enc P W 0 (fun _ => true) true ts vs ds ps → ds.length = ts.length := by
   intro ts
   induction ts with
   | nil =>
    intro vs ds ps h
    match vs, ds, h with
    | [], [], _ => rfl
   | cons t ts ih =>
    intro vs ds ps h
    match vs, ds, h with
    | v :: vs, d :: ds, ⟨_, _, _, h2, _⟩ => simp [ih h2]
  simpa using this hA
 exact ⟨_, rfl, f2H hl hread hvars hW0 (by rw [List.append_nil]; exact hs ds hlen) (fun b hb => hF.heapRo b hb) hF.out hr hb⟩
end
end Go.Rx
namespace Go.Rx
structure CE (P : Program) where
 f : FuncId
 c : v2A
 ok : w9C P f c
def ceL {P : Program} : List (CE P) → List (Nat × v2A)
 | [] => []
 | e :: l => (e.f, e.c) :: ceL l
theorem h9E {P : Program} : ∀ l : List (CE P), h7E P (ceL l)
 | [] => trivial
 | e :: l => ⟨e.ok, h9E l⟩
abbrev ceS {P : Program} {f : FuncId} {i o : List (Bool × Ty)} {fn : f5A i → Option (f5A o)} (h : a4A P f i o fn) : CE P := ⟨f, .sem i o fn, h⟩
abbrev ceI {P : Program} {f : FuncId} {F : Func} (hf : P.funcs[f]? = some F) (a : Ann) (h : (match F.body with | some _ => F.name == "runtime.NumGoroutine" | none => true) = false) : CE P :=
 ⟨f, .inl F (F.body.getD .skip) a, hf, by cases e : F.body with
  | none => rw [e] at h; cases h
  | some b => rfl, by cases e : F.body with
  | none => rw [e] at h; cases h
  | some b => rw [e] at h; exact h⟩
theorem mkC {P : Program} {T : Tab} (hT : TabOK P T) (hP : P.follows .mixedOrders = true) {f : FuncId} {F : Func} (hf : P.funcs[f]? = some F) {i o : List (Bool × Ty)} {fn : f5A i → Option (f5A o)} (a : Ann) (l : List (CE P))
  (hb : (match F.body with | some _ => F.name == "runtime.NumGoroutine" | none => true) = false) (h : ∀ x, c4E T (ceL l) 8 F (F.body.getD .skip) a i o x = fn x) : a4A P f i o fn :=
 e6H hT hP (h3E hT hP (h8E (h9E l)) 8) hf (body := F.body.getD .skip) (by cases e : F.body with
  | none => rw [e] at hb; cases hb
  | some b => rfl) (by cases e : F.body with
  | none => rw [e] at hb; cases hb
  | some b => rw [e] at hb; exact hb) h
theorem s6F {P : Program} {T : Tab} (hT : TabOK P T) (hP : P.follows .mixedOrders = true) {f : FuncId} {F : Func} (hf : P.funcs[f]? = some F) {t : Ty} {o : List (Bool × Ty)} {fn : List (den t) → Option (f5A o)} (a : Ann) (l : List (CE P))
  (hb : (match F.body with | some _ => F.name == "runtime.NumGoroutine" | none => true) = false) (ht : t.pure = true) (h1 : h5C T (ceL l) 8 F (F.body.getD .skip) a [.nilsl] o = fn []) (h2 : ∀ x, h5C T (ceL l) 8 F (F.body.getD .skip) a [.slv t x] o = fn x) : a4A P f [(false, .sl t)] o fn :=
 f0H hT hP (h3E hT hP (h8E (h9E l)) 8) hf (body := F.body.getD .skip) (by cases e : F.body with
  | none => rw [e] at hb; cases hb
  | some b => rfl) (by cases e : F.body with
  | none => rw [e] at hb; cases hb
  | some b => rw [e] at hb; exact hb) ht h1 h2
theorem t7F {P : Program} {f : FuncId} {F : Func} (hf : P.funcs[f]? = some F) {i o : List (Bool × Ty)} {G : (f5A i → Option (f5A o)) → f5A i → Option (f5A o)}
  (hb : (match F.body with | some _ => F.name == "runtime.NumGoroutine" | none => true) = false) (h : ∀ g, a4A P f i o g → a4A P f i o (G g)) : a4A P f i o (r6B G) :=
 e7H hf (body := F.body.getD .skip) (by cases e : F.body with
  | none => rw [e] at hb; cases hb
  | some b => rfl) (by cases e : F.body with
  | none => rw [e] at hb; cases hb
  | some b => rw [e] at hb; exact hb) h
end Go.Rx
