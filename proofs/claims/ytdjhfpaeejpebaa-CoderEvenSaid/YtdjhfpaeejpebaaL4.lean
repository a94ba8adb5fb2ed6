/- Parts of a proof: evaluation of Go code over typed values, and what it computes. -/
import Derived.Test.YtdjhfpaeejpebaaL3
set_option linter.unusedSimpArgs false
set_option linter.unusedVariables false
set_option linter.unusedSectionVars false
/- The law CoderTotal: as many symbols are had as tables are asked. -/
namespace Go.Sq
open Go.Rx

theorem roomy_pos {n : Nat} {lo hi : Int} (hr : roomy n lo hi) (h : hi < 2147483648 ∨ lo ≥ 2147483648 ∨ (lo ≥ 1073741824 ∧ hi < 3221225472)) : ∃ k, n = k + 1 := by
  cases n with
  | zero => have := roomy_zero hr; omega
  | succ k => exact ⟨k, rfl⟩
theorem decS_ok : ∀ {n : Nat} {lo hi c : Int} {p : Nat} {l : List Bool}, roomy n lo hi → lo ≤ c → c ≤ hi → ∃ (lo' hi' c' : Int) (p' : Nat), decS (n + 1) lo hi c p l = (lo', hi', c', p') ∧ goodP lo' hi' ∧ 0 ≤ lo' ∧ hi' < 4294967296 ∧ lo' ≤ c' ∧ c' ≤ hi' ∧ p ≤ p' ∧ p' ≤ p + n := by
  intro n
  induction n with
  | zero =>
    intro lo hi c p l hr h1 h2
    have := roomy_zero hr
    refine ⟨lo, hi, c, p, ?_, ?_, by omega, by omega, h1, h2, Nat.le_refl _, Nat.le_refl _⟩
    · rw [decS, if_neg (by omega), if_neg (by omega), if_neg (by omega)]
    · unfold goodP; omega
  | succ n ih =>
    intro lo hi c p l hr h1 h2
    obtain ⟨r1, r2, r3, r4⟩ := hr
    have hr : roomy (n + 1) lo hi := ⟨r1, r2, r3, r4⟩
    have hb := bI_range l p
    rw [decS]
    by_cases c1 : hi < 2147483648
    · rw [if_pos c1]
      obtain ⟨lo', hi', c', p', a1, a2, a3, a4, a5, a6, a7, a8⟩ := ih (l := l) (p := p + 1) (lo := 2 * lo) (hi := 2 * hi + 1) (c := 2 * c + bI l p) (roomy_next hr (by omega) (by omega) (by omega)) (by omega) (by omega)
      exact ⟨lo', hi', c', p', a1, a2, a3, a4, a5, a6, by omega, by omega⟩
    rw [if_neg c1]
    by_cases c2 : lo ≥ 2147483648
    · rw [if_pos c2]
      obtain ⟨lo', hi', c', p', a1, a2, a3, a4, a5, a6, a7, a8⟩ := ih (l := l) (p := p + 1) (lo := 2 * (lo - 2147483648)) (hi := 2 * (hi - 2147483648) + 1) (c := 2 * (c - 2147483648) + bI l p) (roomy_next hr (by omega) (by omega) (by omega)) (by omega) (by omega)
      exact ⟨lo', hi', c', p', a1, a2, a3, a4, a5, a6, by omega, by omega⟩
    rw [if_neg c2]
    by_cases c3 : lo ≥ 1073741824 ∧ hi < 3221225472
    · rw [if_pos c3]
      obtain ⟨lo', hi', c', p', a1, a2, a3, a4, a5, a6, a7, a8⟩ := ih (l := l) (p := p + 1) (lo := 2 * (lo - 1073741824)) (hi := 2 * (hi - 1073741824) + 1) (c := 2 * (c - 1073741824) + bI l p) (roomy_next hr (by omega) (by omega) (by omega)) (by omega) (by omega)
      exact ⟨lo', hi', c', p', a1, a2, a3, a4, a5, a6, by omega, by omega⟩
    · rw [if_neg c3]
      exact ⟨lo, hi, c, p, rfl, by unfold goodP; omega, r1, r3, h1, h2, Nat.le_refl _, by omega⟩
/-- a decoder's state, as it is while one reads -/
def isD (l : List Bool) (d : DecT) : Prop := ∃ (lo hi c : Int) (p : Nat), d = (lo, (hi, (c, ((pk l, (l.length : Int)), (p : Int))))) ∧ 0 ≤ lo ∧ hi < 4294967296 ∧ goodP lo hi ∧ lo ≤ c ∧ c ≤ hi ∧ 32 ≤ p ∧ p ≤ 65600
theorem next_isD {l : List Bool} (hl : l.length ≤ 65536) {d : DecT} (hd : isD l d) {C : List Int} (hF : okF C) :
    NextF d C = (zDec, (0, 20)) ∨ ∃ (s : Nat) (d' : DecT), NextF d C = (d', ((s : Int), 0)) ∧ isD l d' ∧ s + 1 < C.length := by
  obtain ⟨lo, hi, c, p, rfl, a1, a2, a3, a4, a5, a7, a8⟩ := hd
  have hgl := a3.1
  obtain ⟨_, t1, t2⟩ := totS_pos hF
  obtain ⟨_, _, f3, f4, _, _⟩ := find_facts a4 a5 (by omega) t1 t2
  obtain ⟨s, hs⟩ := isSym_ex hF f3 f4
  by_cases hp : l.length + 32 < p
  · left
    unfold NextF
    rw [coder_Next_short a1 a2 a3 a4 a5 hl a7 hp a8 hF]; rfl
  · right
    rw [NextF_ok a1 a2 a3 a4 a5 hl a7 (by omega) hF hs]
    have hs1 := hs.1
    have b0 := okF_mono hF (i := 0) (j := s) (by omega) (by omega)
    rw [hF.2.2.1] at b0
    have b1 := hF.2.2.2.2 s hs1
    have b2 := okF_mono hF (i := s + 1) (j := C.length - 1) (by omega) (by omega)
    rw [← (totS_pos hF).1] at b2
    have hgw := good_wide a3
    obtain ⟨w1, w2⟩ := find_within (a := C.getD s 0) (b := C.getD (s + 1) 0) a4 a5 (by omega) t1 t2 hs.2.1 hs.2.2
    obtain ⟨g1, g2, g3, g4, g5, g6, g7⟩ := nar_facts (r := hi - lo + 1) (a := C.getD s 0) (b := C.getD (s + 1) 0) (t := totS C) (by omega) (by omega) b0 b1 b2 t1 t2
    have hL : narL lo hi (C.getD s 0) (totS C) = lo + (hi - lo + 1) * C.getD s 0 / totS C := rfl
    have hH : narH lo hi (C.getD (s + 1) 0) (totS C) = lo + (hi - lo + 1) * C.getD (s + 1) 0 / totS C - 1 := rfl
    obtain ⟨lo', hi', c', p', e1, e2, e3, e4, e5, e6, e7, e8⟩ := decS_ok (n := 32) (p := p) (l := l) (roomy_start (lo := narL lo hi (C.getD s 0) (totS C)) (hi := narH lo hi (C.getD (s + 1) 0) (totS C)) (by rw [hL]; omega) (by omega) (by rw [hH]; omega)) w1 w2
    have e2' := e2.1
    exact ⟨s, _, nextR_eq rfl e1 (by omega) (by omega) (by omega), ⟨lo', hi', c', p', rfl, e3, e4, e2, e5, e6, by omega, by omega⟩, hs1⟩
theorem backS_tot {l : List Bool} (hl : l.length ≤ 65536) : ∀ (F : List (List Int)) (d : DecT) (acc : List Int), (∀ C ∈ F, okF C) → isD l d →
    backS F d acc = ([], 20) ∨ ∃ syms : List Int, backS F d acc = (acc ++ syms, 0) ∧ syms.length = F.length ∧ (∀ i, i < F.length → 0 ≤ syms.getD i 0 ∧ syms.getD i 0 + 1 < (F.getD i []).length) ∧ ∀ k, k ≤ F.length → backS (F.take k) d acc = (acc ++ syms.take k, 0)
  | [], d, acc, _, _ => .inr ⟨[], by simp [backS], rfl, fun i h => by simp at h, fun k _ => by simp [backS]⟩
  | C :: F, d, acc, hF, hd => by
    rcases next_isD hl hd (hF C List.mem_cons_self) with h | ⟨s, d', h, hd', hs⟩
    · left
      rw [backS, h]; rfl
    · rcases backS_tot hl F d' (acc ++ [(s : Int)]) (fun C h => hF C (List.mem_cons_of_mem _ h)) hd' with h2 | ⟨syms, h2, h3, h4, h5⟩
      · left
        rw [backS, h]
        simp only [ne_eq, not_true_eq_false, if_false]
        exact h2
      · right
        refine ⟨(s : Int) :: syms, ?_, by simp [h3], fun i hi => ?_, fun k hk => ?_⟩
        · rw [backS, h]
          simp only [ne_eq, not_true_eq_false, if_false]
          rw [h2]; simp
        · cases i with
          | zero => simp only [List.getD_cons_zero]; omega
          | succ i => simp only [List.getD_cons_succ]; exact h4 i (by simpa using hi)
        · cases k with
          | zero => simp [backS]
          | succ k =>
            rw [List.take_succ_cons, backS, h]
            simp only [ne_eq, not_true_eq_false, if_false]
            rw [h5 k (by simpa using hk)]; simp
theorem start_isD {l : List Bool} (hl : l.length ≤ 65536) : ∃ d, StartF (pk l, (l.length : Int)) = (d, 0) ∧ isD l d := by
  unfold StartF
  rw [coder_Start_ok hl]
  have := codeS_lt l (n := 32) (by omega)
  exact ⟨_, rfl, 0, 4294967295, codeS l 32, 32, rfl, by omega, by omega, by decide, by omega, by omega, by omega, by omega⟩
theorem tmod_range {k n : Int} (hn : 0 < n) : -n < k.tmod n ∧ k.tmod n < n := by
  constructor
  · by_cases h : 0 ≤ k
    · have := Int.tmod_nonneg n h; omega
    · have h1 : k.tmod n = -((-k).tmod n) := by rw [← Int.neg_tmod, Int.neg_neg]
      have h2 := Int.tmod_lt_of_pos (-k) hn
      omega
  · exact Int.tmod_lt_of_pos k hn
theorem law_Total {b : List Int × Int} {F : List (List Int)} {k : Int} (hF : small F) (hC : ∀ C ∈ F, small C) (hb : bytes b.1) (hb2 : small b.1) : g_law04_CoderTotal b F k = some true := by
  obtain ⟨B, N⟩ := b
  have hf := few_eq (N := N) hF hb2
  by_cases h : (∀ C ∈ F, C.length ≤ 400) ∧ B.length ≤ 9000 ∧ F.length ≤ 100
  · rw [decide_eq_true h] at hf
    have hf : g_law04_few (B, N) F = some true := hf
    have hc := bits_Check_eq (N := N) hb hb2
    have hn := h.2.2
    unfold ck at hc
    by_cases ho : okB B N
    · rw [if_pos ho] at hc
      have hc : g_bits_Check (B, N) = some 0 := hc
      obtain ⟨l, rfl, rfl, hl⟩ := (okB_iff hb).1 ho
      -- are all tables in order?
      have loop1 : ∃ r, iter g_law04_CoderTotal_r1 (F, k, true, F, (F.length : Int), 0, (pk l, (l.length : Int)), ()) = some r ∧
          ((r = (.inl (F, k, true, (pk l, (l.length : Int)), ()) : (List (List Int) × Int × Bool × (List Int × Int) × Unit) ⊕ (Bool × Unit)) ∧ ∀ C ∈ F, okF C) ∨ r = .inr (true, ())) := by
        refine iter_ex (fun x => ((F.length : Int) - x.2.2.2.2.2.1).toNat) (fun x => ∃ i : Nat, x = (F, k, true, F, (F.length : Int), (i : Int), (pk l, (l.length : Int)), ()) ∧ i ≤ F.length ∧ ∀ j, j < i → okF (F.getD j []))
          (fun r => (r = (.inl (F, k, true, (pk l, (l.length : Int)), ()) : (List (List Int) × Int × Bool × (List Int × Int) × Unit) ⊕ (Bool × Unit)) ∧ ∀ C ∈ F, okF C) ∨ r = .inr (true, ())) ?_ _ ⟨0, rfl, Nat.zero_le _, fun j hj => by omega⟩
        rintro x ⟨i, rfl, h1, h2⟩
        by_cases h3 : i < F.length
        · have hck := freq_Check_eq (hC _ (mem_get h3))
          by_cases h4 : okF (F.getD i [])
          · rw [ckF_pos h4] at hck
            left
            refine ⟨(F, k, true, F, (F.length : Int), ((i + 1 : Nat) : Int), (pk l, (l.length : Int)), ()), ?_, ⟨i + 1, rfl, h3, fun j hj => ?_⟩, by simp only; omega⟩
            · simp (disch := omega) only [g_law04_CoderTotal_r1, dT, wT, Int.toNat_natCast, hck, Option.bind_some, nF, wrap_i64]
              rfl
            · rcases Nat.lt_or_eq_of_le (Nat.lt_succ_iff.1 hj) with h | rfl
              · exact h2 j h
              · exact h4
          · rw [ckF_neg h4] at hck
            right
            refine ⟨_, ?_, .inr rfl⟩
            simp (disch := omega) only [g_law04_CoderTotal_r1, dT, wT, Int.toNat_natCast, hck, Option.bind_some, nT]
        · right
          refine ⟨_, ?_, .inl ⟨rfl, fun C hC => ?_⟩⟩
          · simp (disch := omega) only [g_law04_CoderTotal_r1, dF]
          · obtain ⟨j, hj, e⟩ := List.getElem_of_mem hC
            have := h2 j (by omega)
            rw [List.getD_eq_getElem?_getD, List.getElem?_eq_getElem hj] at this
            rw [← e]; exact this
      obtain ⟨r, l1, l2⟩ := loop1
      rcases l2 with ⟨rfl, hok⟩ | rfl
      · have hbk := (Back_same (N := (l.length : Int)) hb hb2 (F := F) (by omega) hC).1
        obtain ⟨d, hst, hd⟩ := start_isD hl
        have hbf : ∀ G, backF (pk l, (l.length : Int)) G = backS G d [] := fun G => by
          unfold backF; rw [hst]; rfl
        rw [hbf] at hbk
        rcases backS_tot hl F d [] hok hd with h2 | ⟨syms, h2, h3, h4, h5⟩
        · rw [h2] at hbk
          simp (disch := omega) only [g_law04_CoderTotal, live_eq, hf, hc, Option.bind_some, Bool.not_true, cond_false, bne_self_eq_false, l1, hbk, nT, cond_true, eT]
          rfl
        · rw [h2, List.nil_append] at hbk
          have loop2 : iter g_law04_CoderTotal_r2 (F, k, true, syms, syms, (syms.length : Int), 0, (pk l, (l.length : Int)), ()) = some (.inl (F, k, true, syms, (pk l, (l.length : Int)), ())) := by
            obtain ⟨r, q1, q2⟩ := iter_ex (f := g_law04_CoderTotal_r2) (fun x => ((F.length : Int) - x.2.2.2.2.2.2.1).toNat) (fun x => ∃ i : Nat, x = (F, k, true, syms, syms, (syms.length : Int), (i : Int), (pk l, (l.length : Int)), ()) ∧ i ≤ F.length)
              (fun r => r = .inl (F, k, true, syms, (pk l, (l.length : Int)), ())) (by
                rintro x ⟨i, rfl, h6⟩
                by_cases h7 : i < F.length
                · obtain ⟨h8, h9⟩ := h4 i h7
                  have hcl := h.1 _ (mem_get h7)
                  left
                  refine ⟨(F, k, true, syms, syms, (syms.length : Int), ((i + 1 : Nat) : Int), (pk l, (l.length : Int)), ()), ?_, ⟨i + 1, rfl, h7⟩, by simp only; omega⟩
                  simp (disch := omega) only [g_law04_CoderTotal_r2, dT, dF, wT, Int.toNat_natCast, Option.bind_some, wrap_i64]
                  rfl
                · right
                  refine ⟨_, ?_, rfl⟩
                  simp (disch := omega) only [g_law04_CoderTotal_r2, dF]) _ ⟨0, rfl, Nat.zero_le _⟩
            have q1' : iter g_law04_CoderTotal_r2 (F, k, true, syms, syms, (syms.length : Int), 0, (pk l, (l.length : Int)), ()) = some r := q1
            rw [q1', q2]
          obtain ⟨t1, t2⟩ := tmod_range (k := k) (n := (F.length : Int) + 1) (by omega)
          generalize hk : k.tmod ((F.length : Int) + 1) = k1 at t1 t2
          have t3 : 0 ≤ (k1 + (F.length : Int) + 1).tmod ((F.length : Int) + 1) := Int.tmod_nonneg _ (by omega)
          have t4 := (tmod_range (k := k1 + (F.length : Int) + 1) (n := (F.length : Int) + 1) (by omega)).2
          obtain ⟨m, hm⟩ : ∃ m : Nat, (k1 + (F.length : Int) + 1).tmod ((F.length : Int) + 1) = m := ⟨((k1 + (F.length : Int) + 1).tmod ((F.length : Int) + 1)).toNat, by omega⟩
          have hbk2 := (Back_same (N := (l.length : Int)) hb hb2 (F := F.take m) (by rw [List.length_take]; omega) (fun C hC' => hC C (List.mem_of_mem_take hC'))).1
          rw [hbf, h5 m (by omega), List.nil_append] at hbk2
          have hEq := Equal_eq (a := syms.take m) (b := syms.take m) (by simp [small]; omega) (by simp [small]; omega)
          rw [decide_eq_true rfl] at hEq
          simp (disch := omega) only [g_law04_CoderTotal, live_eq, hf, hc, Option.bind_some, Bool.not_true, cond_false, bne_self_eq_false, l1, hbk, nF, loop2, nT, wrap_i64, hk, hm, gT, Int.toNat_natCast, List.drop_zero, hbk2, cond_true, eT, hEq]
      · simp (disch := omega) only [g_law04_CoderTotal, live_eq, hf, hc, Option.bind_some, Bool.not_true, cond_false, bne_self_eq_false, l1]
    · rw [if_neg ho] at hc
      have hc : g_bits_Check (B, N) = some 1 := hc
      simp (disch := omega) only [g_law04_CoderTotal, live_eq, hf, hc, Option.bind_some, Bool.not_true, cond_false, nT]
  · rw [decide_eq_false h] at hf
    have hf : g_law04_few (B, N) F = some false := hf
    simp only [g_law04_CoderTotal, live_eq, hf, Option.bind_some, Bool.not_false, cond_true]
theorem pure_Total (x : denL [(true, BitsTy), (false, .sl (.sl (.int .i64))), (false, .int .i64)]) (h : wfL _ x) : g_law04_CoderTotal x.1 x.2.1 x.2.2 = some true :=
  law_Total (wf_tabs h.2.1).1 (wf_tabs h.2.1).2 (wf_bytes h.1.1).2 (wf_bytes h.1.1).1
end Go.Sq
/- The law CoderEven: by even tables symbols are bytes. -/
namespace Go.Sq
open Go.Rx

def evenC : List Int := (List.range 257).map fun (j : Nat) => (j : Int)
theorem rng_get (n i : Nat) (h : i < n) : ((List.range n).map fun (j : Nat) => (j : Int)).getD i 0 = (i : Int) := by
  simp [List.getD_eq_getElem?_getD, h]
theorem evenC_len : evenC.length = 257 := by simp [evenC]
theorem evenC_get {i : Nat} (h : i < 257) : evenC.getD i 0 = (i : Int) := rng_get 257 i h
theorem evenC_ok : okF evenC := by
  refine ⟨by rw [evenC_len]; omega, by rw [evenC_len]; omega, evenC_get (by omega), ?_, fun i hi => ?_⟩
  · rw [evenC_len, evenC_get (by omega)]; omega
  · rw [evenC_len] at hi
    rw [evenC_get (by omega), evenC_get (by omega)]; omega
theorem evenC_tot : totS evenC = 256 := by
  rw [(totS_pos evenC_ok).1, evenC_len, evenC_get (by omega)]; rfl
theorem even_repeat : g_slices_Repeat_Sint_int [1] 256 = some (List.replicate 256 1) := by
  have step : ∀ a b : List Int, ∀ n m : Int, g_slices_Repeat_Sint_int_r1 (a, n, ()) = some (.inl (b, m, ())) → iter g_slices_Repeat_Sint_int_r1 (a, n, ()) = iter g_slices_Repeat_Sint_int_r1 (b, m, ()) := fun a b n m h => iter_inl h
  have h0 : g_slices_Repeat_Sint_int [1] 256 = (iter g_slices_Repeat_Sint_int_r1 (1 :: List.replicate 255 0, 1, ())).bind fun j4 => some j4.1 := by kernel_rfl
  rw [h0]
  rw [step _ (List.replicate 2 1 ++ List.replicate 254 0) _ 2 (by kernel_rfl), step _ (List.replicate 4 1 ++ List.replicate 252 0) _ 4 (by kernel_rfl), step _ (List.replicate 8 1 ++ List.replicate 248 0) _ 8 (by kernel_rfl),
    step _ (List.replicate 16 1 ++ List.replicate 240 0) _ 16 (by kernel_rfl), step _ (List.replicate 32 1 ++ List.replicate 224 0) _ 32 (by kernel_rfl), step _ (List.replicate 64 1 ++ List.replicate 192 0) _ 64 (by kernel_rfl),
    step _ (List.replicate 128 1 ++ List.replicate 128 0) _ 128 (by kernel_rfl), step _ (List.replicate 256 1) _ 256 (by kernel_rfl)]
  rw [iter_inr (r := (List.replicate 256 1, ())) (by kernel_rfl)]
  rfl
theorem rng_succ (n : Nat) : ((List.range (n + 1)).map fun (j : Nat) => (j : Int)) ++ [((n + 1 : Nat) : Int)] = (List.range (n + 2)).map fun (j : Nat) => (j : Int) := by
  rw [List.range_succ (n := n + 1)]; simp
theorem new_ones {ones : List Int} (hl : ones.length = 256) (ho : ∀ i, i < 256 → ones.getD i 0 = 1) : g_freq_New ones = some (evenC, 0) := by
  have loop : iter g_freq_New_r1 (ones, ones, (ones.length : Int), 0, [], [0], ()) = some (.inl (ones, [], evenC, ())) := by
    obtain ⟨r, h1, h2⟩ := iter_ex (f := g_freq_New_r1) (fun x => (256 - x.2.2.2.1).toNat) (fun x => ∃ i : Nat, x = (ones, ones, (ones.length : Int), (i : Int), [], ((List.range (i + 1)).map fun (j : Nat) => (j : Int)), ()) ∧ i ≤ 256)
      (fun r => r = .inl (ones, [], evenC, ())) (by
        rintro x ⟨i, rfl, h1⟩
        by_cases h2 : i < 256
        · left
          have hg := ho i h2
          have hlen : ((List.range (i + 1)).map fun (j : Nat) => (j : Int)).length = i + 1 := by simp
          have hlast := last_eq (C := (List.range (i + 1)).map fun (j : Nat) => (j : Int)) (by omega) (by omega)
          rw [hlen, Nat.add_sub_cancel, rng_get _ _ (by omega)] at hlast
          have hroom : room 8 ((List.range (i + 2)).map fun (j : Nat) => (j : Int)).length = true := room_iff.2 (by simp; omega)
          refine ⟨_, ?_, ⟨i + 1, rfl, h2⟩, by simp only; omega⟩
          have hs := rng_succ i
          have e : ((i + 1 : Nat) : Int) = (i : Int) + 1 := by omega
          rw [e] at hs
          simp (disch := omega) only [g_freq_New_r1, dT, dF, wT, Int.toNat_natCast, hg, hlast, Option.bind_some, wrap_i64, hs, hroom, cond_true]
          rw [e]
        · right
          have : i = 256 := by omega
          subst this
          refine ⟨_, ?_, rfl⟩
          simp (disch := omega) only [g_freq_New_r1, dF]
          rfl) _ ⟨0, rfl, by omega⟩
    have h1' : iter g_freq_New_r1 (ones, ones, (ones.length : Int), 0, [], [0], ()) = some r := h1
    rw [h1', h2]
  have hroom : (decide ((0 : Int) ≤ 1) && decide (1 ≤ (256 : Int) + 1) && room 8 ((256 : Int) + 1).toNat) = true := by decide
  have e : (ones.length : Int) = 256 := by omega
  rw [e] at loop
  have hrep : List.replicate 1 (0 : Int) = [0] := rfl
  have e2 : ((256 : Int) == 0) = false := by decide
  simp (disch := omega) only [g_freq_New, dF, e, wrap_i64, hrep, loop, Option.bind_some, eF]
  exact cT hroom
theorem even_new : g_freq_New (List.replicate 256 1) = some (evenC, 0) := new_ones List.length_replicate fun i hi => by
  rw [List.getD_eq_getElem?_getD, List.getElem?_replicate, if_pos hi]; rfl
theorem even_eq : g_freq_Even 256 = some (evenC, 0) := by
  simp (disch := omega) only [g_freq_Even, dF, Option.bind_some, even_repeat, even_new, decide_false, cond_false]

theorem bn_hi0 {x k : Nat} (h : x < 2 ^ k) : bn x (k + 1) = false :: bn x k := by
  rw [bn_next, Nat.testBit_lt_two_pow h]
theorem bn_hi1 {y k : Nat} (h : y < 2 ^ k) : bn (2 ^ k + y) (k + 1) = true :: bn y k := by
  rw [bn_next]
  have e : 2 ^ k + y = 2 ^ k * 1 + y := by omega
  congr 1
  · rw [e, Nat.testBit_two_pow_mul_add _ h, if_neg (by omega)]; simp
  · apply ext_getDb
    · simp [bn_len]
    · intro i hi
      rw [bn_len] at hi
      rw [bn_get, bn_get, e, Nat.testBit_two_pow_mul_add _ h, if_pos (by omega)]
/-- an interval that is a part of so many equal ones -/
theorem widS_even : ∀ (k n j x : Nat) (L : List Bool), k + j = 32 → k ≤ n → x < 2 ^ k → L.length + k ≤ 65536 →
    widS (n + 1) ((x : Int) * 2 ^ j) (((x : Int) + 1) * 2 ^ j - 1) 0 L = some (0, 4294967295, 0, L ++ bn x k)
  | 0, n, j, x, L, hj, _, hx, _ => by
    have h0 : x = 0 := by simpa using hx
    have h1 : j = 32 := by omega
    subst h0; subst h1
    rw [widS, if_neg (by decide), if_neg (by decide), if_neg (by decide)]
    simp [bn]
  | k + 1, 0, _, _, _, _, h, _, _ => by omega
  | k + 1, n + 1, j, x, L, hj, hn, hx, hL => by
    have hpj : (2 : Int) ^ (j + 1) = 2 * 2 ^ j := by rw [Int.pow_succ]; omega
    have hpk : (2 : Int) ^ k * 2 ^ j = 2147483648 := by
      rw [← Int.pow_add, show k + j = 31 from by omega]; rfl
    have hpos : (0 : Int) < 2 ^ j := Int.pow_pos (by decide)
    have hcast : ((2 ^ k : Nat) : Int) = (2 : Int) ^ k := by simp
    rw [widS]
    by_cases h1 : x < 2 ^ k
    · have h2 : ((x : Int) + 1) * 2 ^ j ≤ 2 ^ k * 2 ^ j := Int.mul_le_mul_of_nonneg_right (by omega) (by omega)
      rw [if_pos (by omega), if_neg (by omega)]
      have ih := widS_even k n (j + 1) x (outL L false 0) (by omega) (by omega) h1 (by rw [outL_len]; omega)
      have e1 : (x : Int) * 2 ^ (j + 1) = 2 * ((x : Int) * 2 ^ j) := by rw [hpj, Int.mul_left_comm]
      have e2 : ((x : Int) + 1) * 2 ^ (j + 1) - 1 = 2 * (((x : Int) + 1) * 2 ^ j - 1) + 1 := by rw [hpj, Int.mul_left_comm]; omega
      rw [e1, e2] at ih
      rw [ih, bn_hi0 h1]
      simp [outL]
    · obtain ⟨y, rfl⟩ : ∃ y, x = 2 ^ k + y := ⟨x - 2 ^ k, by omega⟩
      have hy : y < 2 ^ k := by rw [Nat.pow_succ] at hx; omega
      have e0 : ((2 ^ k + y : Nat) : Int) = 2 ^ k + (y : Int) := by omega
      have h2 : ((y : Int) + 1) * 2 ^ j ≤ 2 ^ k * 2 ^ j := Int.mul_le_mul_of_nonneg_right (by omega) (by omega)
      have h3 : 0 ≤ (y : Int) * 2 ^ j := Int.mul_nonneg (by omega) (by omega)
      rw [e0]
      have e3 : (2 ^ k + (y : Int)) * 2 ^ j = 2147483648 + (y : Int) * 2 ^ j := by rw [Int.add_mul, hpk]
      have e4 : (2 ^ k + (y : Int) + 1) * 2 ^ j = 2147483648 + ((y : Int) + 1) * 2 ^ j := by rw [Int.add_assoc, Int.add_mul, hpk]
      have e5 : ((y : Int) + 1) * 2 ^ j = (y : Int) * 2 ^ j + 2 ^ j := by rw [Int.add_mul]; omega
      rw [e3, e4, if_neg (by omega), if_pos (by omega), if_neg (by omega)]
      have ih := widS_even k n (j + 1) y (outL L true 0) (by omega) (by omega) hy (by rw [outL_len]; omega)
      have e1 : (y : Int) * 2 ^ (j + 1) = 2 * (2147483648 + (y : Int) * 2 ^ j - 2147483648) := by rw [hpj, Int.mul_left_comm]; omega
      have e2 : ((y : Int) + 1) * 2 ^ (j + 1) - 1 = 2 * (2147483648 + ((y : Int) + 1) * 2 ^ j - 1 - 2147483648) + 1 := by rw [hpj, Int.mul_left_comm]; omega
      rw [e1, e2] at ih
      rw [ih, bn_hi1 hy]
      simp [outL]
def fullE (L : List Bool) : EncT := (0, (4294967295, (((0 : Nat) : Int), (pk L, (L.length : Int)))))
theorem even_put {L : List Bool} {b : Nat} (hb : b < 256) (hL : L.length + 8 ≤ 65536) : PutF (fullE L) evenC (b : Int) = (fullE (L ++ bn b 8), 0) := by
  unfold fullE
  have hs : okSpan evenC (b : Int) := ⟨evenC_ok, by omega, by rw [evenC_len]; omega⟩
  rw [PutF_ok (by decide) (by decide) (by decide) (by decide) (by omega) hs]
  have h := widS_even 8 32 24 b L (by omega) (by omega) hb hL
  refine putR_eq evenC_tot ?_ (by decide) (by decide) (by decide)
  rw [Int.toNat_natCast, evenC_get (by omega), evenC_get (by omega)]
  have e1 : narL 0 4294967295 (b : Int) 256 = (b : Int) * 2 ^ 24 := by unfold narL; omega
  have e2 : narH 0 4294967295 ((b + 1 : Nat) : Int) 256 = ((b : Int) + 1) * 2 ^ 24 - 1 := by unfold narH; omega
  rw [e1, e2]
  exact h
def bits8 (l : List Int) : List Bool := l.flatMap fun x => bn x.toNat 8
theorem bits8_len (l : List Int) : (bits8 l).length = 8 * l.length := by
  induction l with
  | nil => rfl
  | cons x l ih =>
    show (bn x.toNat 8 ++ bits8 l).length = _
    rw [List.length_append, bn_len, ih, List.length_cons]; omega
theorem even_all : ∀ (l : List Int) (L : List Bool), bytes l → L.length + 8 * l.length ≤ 65536 → putAll (l.zip (List.replicate l.length evenC)) (fullE L) = (fullE (L ++ bits8 l), 0)
  | [], L, _, _ => by simp [putAll, bits8]
  | x :: l, L, hb, hL => by
    have hx := hb x List.mem_cons_self
    obtain ⟨b, rfl⟩ : ∃ b : Nat, x = b := ⟨x.toNat, by omega⟩
    simp only [List.length_cons] at hL
    have h := even_put (L := L) (b := b) (by omega) (by omega)
    simp only [List.length_cons, List.replicate_succ, List.zip_cons_cons, putAll, h, ne_eq, not_true_eq_false, if_false]
    rw [even_all l (L ++ bn b 8) (fun y hy => hb y (List.mem_cons_of_mem _ hy)) (by rw [List.length_append, bn_len]; omega)]
    simp [bits8]
theorem pk_cons8 {x M : List Bool} (hx : x.length = 8) : pk (x ++ M) = ((byt x 0 : Nat) : Int) :: pk M := by
  symm
  apply pk_ext
  · rw [List.length_cons, pk_len, List.length_append, hx]; omega
  · intro k hk
    cases k with
    | zero =>
      rw [List.getD_cons_zero]
      congr 1
      exact (byt_app_low (by omega)).symm
    | succ k =>
      rw [List.getD_cons_succ, pk_get]
      congr 1
      apply Nat.eq_of_testBit_eq
      intro i
      rw [byt_test, byt_test, getD_app, hx]
      by_cases hi : i < 8
      · rw [if_neg (by omega), show 8 * (k + 1) + (7 - i) - 8 = 8 * k + (7 - i) from by omega]
      · simp [hi]
theorem byt_bn {b : Nat} (hb : b < 256) : byt (bn b 8) 0 = b := by
  apply Nat.eq_of_testBit_eq
  intro i
  rw [byt_test, bn_get]
  by_cases hi : i < 8
  · have : 8 * 0 + (7 - i) < 8 := by omega
    simp only [hi, this, decide_true, Bool.true_and]
    congr 1; omega
  · rw [Nat.testBit_lt_two_pow (Nat.lt_of_lt_of_le hb (show 2 ^ 8 ≤ 2 ^ i from Nat.pow_le_pow_right (by omega) (by omega)))]
    simp [hi]
theorem pk_bits8 : ∀ (l : List Int) (M : List Bool), bytes l → pk (bits8 l ++ M) = l ++ pk M
  | [], M, _ => rfl
  | x :: l, M, hb => by
    have hx := hb x List.mem_cons_self
    obtain ⟨b, rfl⟩ : ∃ b : Nat, x = b := ⟨x.toNat, by omega⟩
    show pk ((bn ((b : Int).toNat) 8 ++ bits8 l) ++ M) = _
    rw [Int.toNat_natCast, List.append_assoc, pk_cons8 (bn_len _ _), byt_bn (by omega), pk_bits8 l M (fun y hy => hb y (List.mem_cons_of_mem _ hy))]
    rfl
theorem law_Even {l : List Int} (hl : small l) (hb : bytes l) : g_law04_CoderEven l = some true := by
  by_cases h : l.length > 100
  · simp (disch := omega) only [g_law04_CoderEven, live_eq, Option.bind_some, Bool.not_true, cond_false, dT]
  · have loop : iter g_law04_CoderEven_r1 (l, true, [], [], l, (l.length : Int), 0, evenC, ()) = some (l, true, l, List.replicate l.length evenC, ()) := by
      obtain ⟨r, h1, h2⟩ := iter_ex (f := g_law04_CoderEven_r1) (fun x => ((l.length : Int) - x.2.2.2.2.2.2.1).toNat) (fun x => ∃ i : Nat, x = (l, true, l.take i, List.replicate i evenC, l, (l.length : Int), (i : Int), evenC, ()) ∧ i ≤ l.length)
        (fun r => r = (l, true, l, List.replicate l.length evenC, ())) (by
          rintro x ⟨i, rfl, h1⟩
          by_cases h2 : i < l.length
          · left
            have hx := hb _ (mem_getI h2)
            have ht : l.take i ++ [l.getD i 0] = l.take (i + 1) := by
              rw [List.take_add_one, List.getD_eq_getElem?_getD, List.getElem?_eq_getElem h2]; rfl
            have hr : List.replicate i evenC ++ [evenC] = List.replicate (i + 1) evenC := by rw [List.replicate_succ']
            have r1 : room 8 (l.take (i + 1)).length = true := room_iff.2 (by rw [List.length_take]; omega)
            have r2 : room 24 (List.replicate (i + 1) evenC).length = true := room_iff.2 (by rw [List.length_replicate]; omega)
            refine ⟨_, ?_, ⟨i + 1, rfl, h2⟩, by simp only; omega⟩
            simp (disch := omega) only [g_law04_CoderEven_r1, dT, wT, Int.toNat_natCast, wrap_i64, ht, hr, r1, r2, cond_true]
            rfl
          · right
            have : i = l.length := by omega
            subst this
            refine ⟨_, ?_, rfl⟩
            simp (disch := omega) only [g_law04_CoderEven_r1, dF, List.take_length]) _ ⟨0, rfl, Nat.zero_le _⟩
      have h1' : iter g_law04_CoderEven_r1 (l, true, [], [], l, (l.length : Int), 0, evenC, ()) = some r := h1
      rw [h1', h2]
    have hsm : ∀ C ∈ List.replicate l.length evenC, small C := fun C hC => by
      have := (List.mem_replicate.1 hC).2
      subst this; unfold small; rw [evenC_len]; omega
    have ha := (All_same (l := l) (F := List.replicate l.length evenC) hl (by unfold small; rw [List.length_replicate]; omega) hsm (fun s hs => by have := hb s hs; omega)).1
    have hall : allF l (List.replicate l.length evenC) = ((l ++ [64], 8 * (l.length : Int) + 2), 0) := by
      unfold allF
      rw [if_neg (by simp)]
      have hp := even_all l [] hb (by simp; omega)
      rw [show fullE [] = eBegin from rfl, List.nil_append] at hp
      rw [hp, if_neg (by simp)]
      have hlen := bits8_len l
      show EndF (fullE (bits8 l)) = _
      unfold fullE
      rw [EndF_ok (by decide) (by decide) (by decide) (by decide) (by omega)]
      unfold outS
      rw [if_neg (by omega)]
      have : outL (bits8 l) (decide ((1073741824 : Int) ≤ 0)) (0 + 1) = bits8 l ++ [false, true] := rfl
      rw [this, pk_bits8 l _ hb, hlen, show pk [false, true] = [64] from by kernel_rfl]
      congr 2
    rw [hall] at ha
    have hlen : (l ++ [(64 : Int)]).length = l.length + 1 := by simp
    have htk : (((l ++ [(64 : Int)]).take (l.length : Int).toNat).drop 0) = l := by simp
    have hgt : (l ++ [(64 : Int)]).getD ((l.length : Int).toNat) 0 = 64 := by simp [List.getD_eq_getElem?_getD]
    simp (disch := omega) only [g_law04_CoderEven, live_eq, Option.bind_some, Bool.not_true, cond_false, dF, even_eq, nF, loop, ha, cond_true, eT, wrap_i64, htk, hgt, gT, wT, strEq, beq_self_eq_true]
theorem pure_Even (x : denL [(false, .sl (.int .u8))]) (h : wfL _ x) : g_law04_CoderEven x = some true := law_Even (wf_bytes h).1 (wf_bytes h).2
end Go.Sq
