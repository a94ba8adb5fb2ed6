/- Parts of a proof: evaluation of Go code over typed values, and what it computes. -/
import Derived.Test.YtojdkfikpacakaaGreatL3
import Derived.Test.YtojdkfikpacakaaGreatL2
import Derived.ProofKit
set_option linter.unusedSimpArgs false
set_option linter.unusedVariables false
set_option linter.unusedSectionVars false
namespace Go.Sq
open Go.Rx
def chain : DecT → List (Int × List Int) → Prop
 | _, [] => True
 | d, z :: r => (NextF d z.2).2 = (z.1, 0) ∧ chain (NextF d z.2).1 r
theorem chain_of : ∀ (zs : List (Int × List Int)) (d : DecT) (acc : List Int), backS (zs.map (·.2)) d acc = (acc ++ zs.map (·.1), 0) → chain d zs
 | [], _, _, _ => trivial
 | (s, C) :: zs, d, acc, h => by
  simp only [List.map_cons, backS] at h
  by_cases h0 : (NextF d C).2.2 = 0
  ·rw [if_neg (by simp [h0])] at h
   have hpre : ∀ (F : List (List Int)) (d : DecT) (a : List Int) (r : List Int), backS F d a = (r, 0) → ∃ t, r = a ++ t := by
    intro F
    induction F with
    | nil => intro d a r h; simp only [backS] at h; exact ⟨[], by rw [List.append_nil]; exact (congrArg (·.1) h).symm⟩
    | cons C F ih =>
     intro d a r h
     simp only [backS] at h
     split at h
     ·rename_i hne; exact absurd (congrArg (·.2) h) hne
     ·obtain ⟨t, rfl⟩ := ih _ _ _ h
      exact ⟨(NextF d C).2.1 :: t, by simp⟩
   obtain ⟨t, ht⟩ := hpre _ _ _ _ h
   have hs : (NextF d C).2.1 = s := by
    have := congrArg (fun m => m.drop acc.length) ht
    simp only [List.append_assoc, List.drop_left, List.singleton_append] at this
    exact (List.cons.inj this).1.symm
   refine ⟨?_, chain_of zs _ (acc ++ [s]) ?_⟩
   ·exact Prod.ext hs h0
   ·rw [hs] at h
    rw [h]; simp
  ·rw [if_pos h0] at h
   exact absurd (congrArg (·.2) h) h0
theorem widS_some : ∀ {n : Nat} {lo hi : Int} {w : Nat} {l : List Bool}, roomy n lo hi → l.length + w + n ≤ 65535 → ∃ lo' hi' w' l', widS (n + 1) lo hi w l = some (lo', hi', w', l') ∧ l'.length + w' ≤ l.length + w + n := by
 intro n
 induction n with
 | zero =>
  intro lo hi w l hr hl
  obtain ⟨rfl, rfl⟩ := roomy_zero hr
  exact ⟨0, 4294967295, w, l, rfl, by omega⟩
 | succ n ih =>
  intro lo hi w l hr hl
  obtain ⟨h1, h2, h3, h4⟩ := hr
  have hol := fun b => outL_len l b w
  unfold widS
  by_cases c1 : hi < 2147483648
  ·rw [if_pos c1, if_neg (by omega)]
   obtain ⟨a, b, c, d, e, f⟩ := ih (lo := 2 * lo) (hi := 2 * hi + 1) (w := 0) (l := outL l false w) (roomy_next ⟨h1, h2, h3, h4⟩ (by omega) (by omega) (by omega)) (by rw [hol]; omega)
   exact ⟨a, b, c, d, e, by rw [hol] at f; omega⟩
  ·rw [if_neg c1]
   by_cases c2 : lo ≥ 2147483648
   ·rw [if_pos c2, if_neg (by omega)]
    obtain ⟨a, b, c, d, e, f⟩ := ih (lo := 2 * (lo - 2147483648)) (hi := 2 * (hi - 2147483648) + 1) (w := 0) (l := outL l true w) (roomy_next ⟨h1, h2, h3, h4⟩ (by omega) (by omega) (by omega)) (by rw [hol]; omega)
    exact ⟨a, b, c, d, e, by rw [hol] at f; omega⟩
   ·rw [if_neg c2]
    by_cases c3 : lo ≥ 1073741824 ∧ hi < 3221225472
    ·rw [if_pos c3]
     obtain ⟨a, b, c, d, e, f⟩ := ih (lo := 2 * (lo - 1073741824)) (hi := 2 * (hi - 1073741824) + 1) (w := w + 1) (l := l) (roomy_next ⟨h1, h2, h3, h4⟩ (by omega) (by omega) (by omega)) (by omega)
     exact ⟨a, b, c, d, e, by omega⟩
    ·rw [if_neg c3]
     exact ⟨lo, hi, w, l, rfl, by omega⟩
theorem small_okF {C : List Int} (h : okF C) : small C := by have := h.2.1; unfold small; omega
theorem put_some {lo hi : Int} {w : Nat} {l : List Bool} (h : atWork lo hi w l) {C : List Int} {s : Int} (hs : okSpan C s) (hl : l.length + w ≤ 60000) :
  ∃ (lo' hi' : Int) (w' : Nat) (l' : List Bool), PutF (encE lo hi w l) C s = (encE lo' hi' w' l', 0) ∧ l'.length + w' ≤ l.length + w + 32 := by
 have hgl := h.good
 unfold goodP at hgl
 have hp := PutF_ok h.lo0 h.hi1 h.good h.wait h.len hs
 have ht := totS_pos hs.1
 have hsp := span_ok hs.1 hs.2.1 hs.2.2
 have h1 := h.lo0
 have h2 := h.hi1
 have nf := nar_facts (r := hi - lo + 1) (a := C.getD s.toNat 0) (b := C.getD (s.toNat + 1) 0) (t := totS C) (by omega) (by omega) hsp.1 hsp.2.1 hsp.2.2 ht.2.1 ht.2.2
 have hr : roomy 32 (narL lo hi (C.getD s.toNat 0) (totS C)) (narH lo hi (C.getD (s.toNat + 1) 0) (totS C)) := roomy_start (by unfold narL; omega) (by unfold narL narH; omega) (by unfold narH; omega)
 obtain ⟨a, b, c, d, e, f⟩ := widS_some (w := w) (l := l) hr (by omega)
 obtain ⟨o1, o2, o3, _⟩ := widS_ok hr e
 unfold goodP at o1
 refine ⟨a, b, c, d, ?_, f⟩
 unfold encE
 rw [hp]
 exact putR_eq rfl e (by omega) (by omega) (by omega)
theorem putAll_some : ∀ (zs : List (Int × List Int)) {lo hi : Int} {w : Nat} {l : List Bool}, atWork lo hi w l → (∀ z ∈ zs, okSpan z.2 z.1) → l.length + w + 32 * zs.length ≤ 60000 →
  ∃ (lo' hi' : Int) (w' : Nat) (l' : List Bool), putAll zs (encE lo hi w l) = (encE lo' hi' w' l', 0) ∧ l'.length + w' ≤ l.length + w + 32 * zs.length
 | [], lo, hi, w, l, _, _, _ => ⟨lo, hi, w, l, rfl, by simp⟩
 | (s, C) :: zs, lo, hi, w, l, h, hz, hl => by
  simp only [List.length_cons] at hl
  have hs := hz (s, C) List.mem_cons_self
  obtain ⟨a, b, c, d, e, f⟩ := put_some h hs (by omega)
  have hs63 : s < 2 ^ 63 := by have := hs.2.2; have := hs.1.2.1; omega
  obtain ⟨_, a', b', c', d', _, g, e'⟩ := put_zero h (small_okF hs.1) hs63 (by rw [e])
  rw [e] at e'
  have q := congrArg (·.1) e'
  have q1 : a = a' := congrArg (·.1) q
  have q2 : b = b' := congrArg (·.2.1) q
  have q3 : (c : Int) = (c' : Int) := congrArg (·.2.2.1) q
  have q4 : pk d = pk d' := congrArg (·.2.2.2.1) q
  have q5 : ((d.length : Nat) : Int) = ((d'.length : Nat) : Int) := congrArg (·.2.2.2.2) q
  have hc : c' = c := by omega
  have hee : encE a b c d = encE a' b' c' d' := q
  obtain ⟨a2, b2, c2, d2, e2, f2⟩ := putAll_some zs g (fun z h => hz z (List.mem_cons_of_mem _ h)) (by omega)
  refine ⟨a2, b2, c2, d2, ?_, by simp only [List.length_cons]; omega⟩
  simp only [putAll]
  rw [e]
  rw [if_neg (by simp)]
  show putAll zs (encE a b c d) = _
  rw [hee]; exact e2
theorem code_ok {zs : List (Int × List Int)} (hz : ∀ z ∈ zs, okSpan z.2 z.1) (hn : zs.length ≤ 100) :
  ∃ L : List Bool, allF (zs.map (·.1)) (zs.map (·.2)) = ((pk L, (L.length : Int)), 0) ∧ 2 ≤ L.length ∧ L.length ≤ 4000 ∧ (∀ ns, worthL zs ns → L.length ≤ sumN ns + 2) ∧
   ∀ T : List Bool, L.length + T.length ≤ 65536 → StartF (pk (L ++ T), ((L ++ T).length : Int)) = (decD (L ++ T) 0 4294967295 0 [], 0) ∧ chain (decD (L ++ T) 0 4294967295 0 []) zs := by
 have hmap : (zs.map (·.1)).zip (zs.map (·.2)) = zs := by
  clear hz hn
  induction zs with
  | nil => rfl
  | cons z zs ih => simp only [List.map_cons, List.zip_cons_cons, ih]
 have hmem : ∀ z ∈ zs, small z.2 ∧ z.1 < 2 ^ 63 := fun z h => ⟨small_okF (hz z h).1, by have := (hz z h).2.2; have := (hz z h).1.2.1; omega⟩
 have hb : eBegin = encE 0 4294967295 0 [] := rfl
 obtain ⟨lo', hi', w', l', e, f⟩ := putAll_some zs atWork_begin hz (by simp; omega)
 have hp : (putAll zs (encE 0 4294967295 0 [])).2 = 0 := by rw [e]
 obtain ⟨lo2, hi2, w2, l2, e1, e2, e3, e4⟩ := run_back zs atWork_begin hmem hp
 have q1 : (encE lo' hi' w' l', (0 : Int)) = (encE lo2 hi2 w2 l2, 0) := by rw [← e, ← e1]
 have q7 : (w' : Int) = (w2 : Int) := congrArg (fun z => z.1.2.2.1) q1
 have q8 : ((l'.length : Nat) : Int) = ((l2.length : Nat) : Int) := congrArg (fun z => z.1.2.2.2.2) q1
 simp only [List.length_nil] at f
 have hol := outL_len l2 (decide (1073741824 ≤ lo2)) (w2 + 1)
 have hE := EndF_ok e2.lo0 e2.hi1 e2.good e2.wait e2.len
 have hall : allF (zs.map (·.1)) (zs.map (·.2)) = ((pk (outL l2 (decide (1073741824 ≤ lo2)) (w2 + 1)), ((outL l2 (decide (1073741824 ≤ lo2)) (w2 + 1)).length : Int)), 0) := by
  unfold allF
  rw [if_neg (by simp), hmap, hb, e1, if_neg (by simp)]
  show EndF (encE lo2 hi2 w2 l2) = _
  unfold encE
  rw [hE]
  unfold outS
  rw [if_neg (by omega), hol]
 refine ⟨_, hall, by rw [hol]; omega, by rw [hol]; omega, fun ns hns => ?_, fun T hT => ?_⟩
 ·obtain ⟨lo3, hi3, w3, l3, k, r1, r2, r3, r4⟩ := run_long zs ns atWork_begin hmem hp hns
  have q1 : (encE lo2 hi2 w2 l2, (0 : Int)) = (encE lo3 hi3 w3 l3, 0) := by rw [← e1, ← r1]
  have q7 : (w2 : Int) = (w3 : Int) := congrArg (fun z => z.1.2.2.1) q1
  have q8 : ((l2.length : Nat) : Int) = ((l3.length : Nat) : Int) := congrArg (fun z => z.1.2.2.2.2) q1
  have q2a := r2.lo0
  have q2b := r2.hi1
  have hk := long_bound (R := hi3 - lo3 + 1) (by omega) hn (by
   have : (4294967295 - 0 + 1 : Int) = 4294967296 := by decide
   rw [this] at r4; exact r4)
  simp only [List.length_nil] at r3
  rw [hol]; omega
 ·have hBl : (outL l2 (decide (1073741824 ≤ lo2)) (w2 + 1) ++ T).length = l2.length + (w2 + 1) + 1 + T.length := by rw [List.length_append, hol]
  rw [hol] at hT
  obtain ⟨_, g2⟩ := e4 (outL l2 (decide (1073741824 ≤ lo2)) (w2 + 1) ++ T) (by omega) (by omega) (end_inside e2.lo0 e2.hi1 e2.good)
  generalize outL l2 (decide (1073741824 ≤ lo2)) (w2 + 1) ++ T = B at *
  have hBB : B.length ≤ 65536 := by omega
  refine ⟨?_, chain_of _ _ [] (g2 [])⟩
  unfold StartF
  rw [coder_Start_ok hBB]
  unfold decD seen base
  simp [bval]
theorem byt_app (L : List Bool) (k j : Nat) : byt (L ++ List.replicate k false) j = byt L j := by
 unfold byt
 congr 1
 funext i
 simp only [List.getD_eq_getElem?_getD]
 by_cases h : 8 * j + (7 - i) < L.length
 ·rw [List.getElem?_append_left h]
 ·rw [List.getElem?_append_right (by omega), List.getElem?_replicate, List.getElem?_eq_none (by omega)]
  split <;> rfl
theorem pk_pad {L : List Bool} : pk (L ++ List.replicate (8 * (pk L).length - L.length) false) = pk L ∧ ((L ++ List.replicate (8 * (pk L).length - L.length) false).length : Int) = 8 * ((pk L).length : Int) := by
 have hp := pk_len L
 have hl : (L ++ List.replicate (8 * (pk L).length - L.length) false).length = 8 * (pk L).length := by
  rw [List.length_append, List.length_replicate]; omega
 refine ⟨?_, by rw [hl]; omega⟩
 refine (pk_ext (L := pk L) (by rw [hl]; omega) fun k hk => ?_).symm
 rw [pk_get, byt_app]
theorem code_read {zs : List (Int × List Int)} (hz : ∀ z ∈ zs, okSpan z.2 z.1) (hn : zs.length ≤ 100) :
  ∃ (B : List Int) (N : Int) (d : DecT), allF (zs.map (·.1)) (zs.map (·.2)) = ((B, N), 0) ∧ bytes B ∧ 1 ≤ B.length ∧ B.length ≤ 600 ∧ (∀ ns, worthL zs ns → 8 * B.length ≤ sumN ns + 9) ∧ StartF (B, 8 * (B.length : Int)) = (d, 0) ∧ chain d zs := by
 obtain ⟨L, h1, h2, h3, h4, h5⟩ := code_ok hz hn
 have hp := pk_len L
 obtain ⟨p1, p2⟩ := pk_pad (L := L)
 obtain ⟨h6, h7⟩ := h5 (List.replicate (8 * (pk L).length - L.length) false) (by rw [List.length_replicate]; omega)
 rw [p1, p2] at h6
 refine ⟨pk L, _, _, h1, pk_bytes L, by omega, by omega, fun ns hns => ?_, h6, h7⟩
 have := h4 ns hns; omega
end Go.Sq
namespace Go.Sq
open Go.Rx
abbrev Sym := Int × List Int
def lvP (k : Int) (L p : List Int) (b : Nat) : Sym := if k = 1 then (L.getD b 0 - p.getD b 0 + 8, changesC) else (L.getD b 0, evenC)
noncomputable def qZ (L Q : List Int) : Nat → List Sym
 | 0 => []
 | n + 1 => if wideF L n = 0 then qZ L Q n else qZ L Q n ++ [(Q.getD n 0 + mostF L n, smallsC (mostF L n))]
def headZ (k : Int) (L p : List Int) (n : Nat) : List Sym := (k, kindsC) :: tab6 (lvP k L p) n
noncomputable def symZ (f : FrT) (p : List Int) : List Sym := headZ f.1 f.2.1 p 6 ++ if f.1 = 2 then [] else qZ f.2.1 f.2.2 16
def fsts (zs : List Sym) : List Int := zs.map (·.1)
def snds (zs : List Sym) : List (List Int) := zs.map (·.2)
theorem snoc1 (zs : List Sym) (z : Sym) : fsts zs ++ [z.1] = fsts (zs ++ [z]) := by simp [fsts]
theorem snoc2 (zs : List Sym) (z : Sym) : snds zs ++ [z.2] = snds (zs ++ [z]) := by simp [snds]
theorem fsts_len (zs : List Sym) : (fsts zs).length = zs.length := by simp [fsts]
theorem snds_len (zs : List Sym) : (snds zs).length = zs.length := by simp [snds]
theorem headZ_succ (k : Int) (L p : List Int) (n : Nat) : headZ k L p n ++ [lvP k L p n] = headZ k L p (n + 1) := by
 unfold headZ; rw [List.cons_append, tab6_succ]
theorem headZ_len (k : Int) (L p : List Int) (n : Nat) : (headZ k L p n).length = n + 1 := by simp [headZ, tab6_len]
theorem qZ_len (L Q : List Int) : ∀ n, (qZ L Q n).length ≤ n
 | 0 => by simp [qZ]
 | n + 1 => by
  have := qZ_len L Q n
  simp only [qZ]; split
  ·omega
  ·rw [List.length_append, List.length_singleton]; omega
theorem set_self (l : List Int) (i : Nat) : l.set i (l.getD i 0) = l := by
 refine list_ext_getD 0 (by rw [List.length_set]) fun j hj => ?_
 rw [List.length_set] at hj
 by_cases hi : i < l.length
 ·rw [set_getD _ _ _ _ _ hi]; split
  ·rename_i h; rw [h]
  ·rfl
 ·rw [List.set_eq_of_length_le (by omega)]
theorem set_same {l : List Int} {i : Nat} {x : Int} (h : x = l.getD i 0) : l.set i x = l := by rw [h, set_self]
theorem okFr_lv {f : FrT} {p : List Int} (h : okFr f p) : lv f.2.1 := h.2.1.1
theorem okFr_q {f : FrT} {p : List Int} (hf : sized f) (h : okFr f p) {n : Nat} (hn : n < 16) : -127 ≤ f.2.2.getD n 0 ∧ f.2.2.getD n 0 ≤ 127 := by
 have := h.2.1.2 n hn
 have := mostF_range hf.1 h.2.1.1 n
 omega
theorem sym_base {p : List Int} {f : FrT} {t l : List Int} {T : List (List Int)} (hp : p.length = 6) (h : lv p) : iter g_frame_symbols_r1 (p, 0, f, t, p, l, T, ()) = some (p, f, t, tab6 (fun b => p.getD b 0 - 8) 6, l, T, ()) := by
 rw [← fillN_eq hp]
 exact iter_count (f := g_frame_symbols_r1) (fun i => (p, (i : Int), f, t, fillN (fun b => p.getD b 0 - 8) i p, l, T, ())) 6 (fun i hi => by
  have e : (fillN (fun b => p.getD b 0 - 8) i p).getD i 0 = p.getD i 0 := by rw [fillN_get _ _ _ _ _ (by omega), if_neg (by omega)]
  have := h i hi
  simp (disch := omega) only [g_frame_symbols_r1, dT, wT, Int.toNat_natCast, e, wrap_succ, fill_step]
  rw [wrap_i64 (by omega) (by omega)]) (by simp (disch := omega) only [g_frame_symbols_r1, dF])
theorem sym_levels {k : Int} {L Q p t base : List Int} (hL : L.length = 6) (hl : lv L) (hb : ∀ i, i < 6 → -8 ≤ base.getD i 0 ∧ base.getD i 0 ≤ 255) (hz : ∀ i, i < 6 → lvP k L p i = (L.getD i 0 - base.getD i 0, t)) :
  iter g_frame_symbols_r2 (p, 0, (k, (L, Q)), t, base, fsts (headZ k L p 0), snds (headZ k L p 0), ()) = some (p, (k, (L, Q)), fsts (headZ k L p 6), snds (headZ k L p 6), ()) :=
 iter_count (f := g_frame_symbols_r2) (fun i => (p, (i : Int), (k, (L, Q)), t, base, fsts (headZ k L p i), snds (headZ k L p i), ())) 6 (fun i hi => by
  have h1 := hl i hi
  have h2 := hb i hi
  have e1 := snoc1 (headZ k L p i) (lvP k L p i)
  have e2 := snoc2 (headZ k L p i) (lvP k L p i)
  rw [hz i hi] at e1 e2
  simp only at e1 e2
  rw [← hz i hi, headZ_succ] at e1 e2
  have e3 : (fsts (headZ k L p (i + 1))).length = i + 2 := by rw [fsts_len, headZ_len]
  have e4 : (snds (headZ k L p (i + 1))).length = i + 2 := by rw [snds_len, headZ_len]
  have e5 : L.set i (L.getD i 0 - base.getD i 0 + base.getD i 0) = L := set_same (by omega)
  simp (disch := omega) only [g_frame_symbols_r2, dT, wT, Int.toNat_natCast, wrap_i64, e1, e2, e3, e4, rT, e5]
  rfl) (by simp (disch := omega) only [g_frame_symbols_r2, dF])
theorem sym_numbers {k : Int} {L Q p : List Int} (hL : L.length = 6) (hl : lv L) (hQ : ∀ n, n < 16 → -127 ≤ Q.getD n 0 ∧ Q.getD n 0 ≤ 127) :
  iter g_frame_symbols_r3 (p, 0, (k, (L, Q)), shareF L, fsts (headZ k L p 6), snds (headZ k L p 6), ()) = some (p, (k, (L, Q)), fsts (headZ k L p 6 ++ qZ L Q 16), snds (headZ k L p 6 ++ qZ L Q 16), ()) := by
 have := iter_count (f := g_frame_symbols_r3) (fun i => (p, (i : Int), (k, (L, Q)), shareF L, fsts (headZ k L p 6 ++ qZ L Q i), snds (headZ k L p 6 ++ qZ L Q i), ())) 16 (r := (p, (k, (L, Q)), fsts (headZ k L p 6 ++ qZ L Q 16), snds (headZ k L p 6 ++ qZ L Q 16), ())) (fun i hi => by
  have hb := band_lt i
  have hq := hQ i hi
  have hw := wideF_range hL hl i
  have hm := mostF_range hL hl i
  have ew : (shareF L).getD (bandOf i) 0 = wideF L i := rfl
  by_cases hz : wideF L i = 0
  ·simp (disch := omega) only [g_frame_symbols_r3, dT, bands_Of_eq hi, Option.bind_some, wT, Int.toNat_natCast, ew, hz, eT, wrap_succ, qZ, if_pos]
   rfl
  ·have e1 := snoc1 (headZ k L p 6 ++ qZ L Q i) (Q.getD i 0 + mostF L i, smallsC (mostF L i))
   have e2 := snoc2 (headZ k L p 6 ++ qZ L Q i) (Q.getD i 0 + mostF L i, smallsC (mostF L i))
   simp only [List.append_assoc] at e1 e2
   have e0 : qZ L Q (i + 1) = qZ L Q i ++ [(Q.getD i 0 + mostF L i, smallsC (mostF L i))] := by simp only [qZ]; rw [if_neg hz]
   rw [← e0] at e1 e2
   have ql := qZ_len L Q (i + 1)
   have e3 : (fsts (headZ k L p 6 ++ qZ L Q (i + 1))).length ≤ 30 := by rw [fsts_len, List.length_append, headZ_len]; omega
   have e4 : (snds (headZ k L p 6 ++ qZ L Q (i + 1))).length ≤ 30 := by rw [snds_len, List.length_append, headZ_len]; omega
   have e5 : Q.set i (Q.getD i 0 + mostF L i - mostF L i) = Q := set_same (by omega)
   have em : mostS (wideF L i) = mostF L i := by unfold mostF; rw [if_neg hz]
   simp (disch := omega) only [g_frame_symbols_r3, dT, bands_Of_eq hi, Option.bind_some, wT, Int.toNat_natCast, ew, eF, quant_Most_eq hw.1 hw.2, em, frame_smalls_eq hm.1 hm.2, wrap_i64, e1, e2, rT, e5]
   rfl) (by simp (disch := omega) only [g_frame_symbols_r3, dF])
 rw [← this]
 simp only [qZ, List.append_nil]; rfl
theorem zero6 (i : Nat) : (List.replicate 6 (0 : Int)).getD i 0 = 0 := rep0 6 i
theorem okFr_k {f : FrT} {p : List Int} (h : okFr f p) : f.1 = 0 ∨ f.1 = 1 ∨ f.1 = 2 := by rcases h.2.2 with h | ⟨h, _⟩ | ⟨h, _⟩ <;> omega
theorem frame_symbols_eq {f : FrT} {p : List Int} (hf : sized f) (hp : p.length = 6) (h : okFr f p) : g_frame_symbols f p = some (fsts (symZ f p), snds (symZ f p)) := by
 obtain ⟨k, L, Q⟩ := f
 have hl : lv L := h.2.1.1
 have hlp : lv p := h.1
 have hQ : ∀ n, n < 16 → -127 ≤ Q.getD n 0 ∧ Q.getD n 0 ≤ 127 := fun n hn => okFr_q hf h hn
 have hsh := (shareF_ok hf.1 hl).1
 have e0 : ([k] : List Int) = fsts (headZ k L p 0) := rfl
 have e00 : ([kindsC] : List (List Int)) = snds (headZ k L p 0) := rfl
 have nums := sym_numbers (k := k) (p := p) hf.1 hl hQ
 simp only at hsh nums
 by_cases k1 : k = 1
 ·have lvs := sym_levels (k := k) (L := L) (Q := Q) (p := p) (t := changesC) (base := tab6 (fun b => p.getD b 0 - 8) 6) hf.1 hl (fun i hi => by rw [tab6_get _ _ _ _ hi]; have := hlp i hi; omega)
   (fun i hi => by rw [tab6_get _ _ _ _ hi]; unfold lvP; rw [if_pos k1]; congr 1; omega)
  have es : symZ (k, L, Q) p = headZ k L p 6 ++ qZ L Q 16 := by unfold symZ; rw [if_neg (show ¬ k = 2 by omega)]
  rw [es]
  simp (disch := omega) only [g_frame_symbols, frame_kinds_eq, Option.bind_some, fsts_len, snds_len, headZ_len, rT, frame_levels_eq, eT, frame_changes_eq, sym_base hp hlp, e0, e00, lvs, eF, hsh, nF, nums]
 ·have lvs := sym_levels (k := k) (L := L) (Q := Q) (p := p) (t := evenC) (base := List.replicate 6 0) hf.1 hl (fun i hi => by rw [zero6]; omega)
   (fun i hi => by rw [zero6]; unfold lvP; rw [if_neg k1]; congr 1; omega)
  by_cases k2 : k = 2
  ·have es : symZ (k, L, Q) p = headZ k L p 6 := by unfold symZ; rw [if_pos k2, List.append_nil]
   rw [es]
   simp (disch := omega) only [g_frame_symbols, frame_kinds_eq, Option.bind_some, fsts_len, snds_len, headZ_len, rT, frame_levels_eq, eF, e0, e00, lvs, eT]
  ·have es : symZ (k, L, Q) p = headZ k L p 6 ++ qZ L Q 16 := by unfold symZ; rw [if_neg k2]
   rw [es]
   simp (disch := omega) only [g_frame_symbols, frame_kinds_eq, Option.bind_some, fsts_len, snds_len, headZ_len, rT, frame_levels_eq, eF, e0, e00, lvs, hsh, nF, nums]
theorem kinds_ok : okF kindsC := cum_ok kindW_ok
theorem changes_ok : okF changesC := cum_ok chgW_ok
theorem smalls_ok {m : Int} (h0 : 0 ≤ m) (h1 : m ≤ 127) : okF (smallsC m) := cum_ok (smallW_ok h0 h1)
theorem kinds_len : kindsC.length = 4 := by decide
theorem changes_len : changesC.length = 17 := by decide
theorem smalls_len {m : Int} : (smallsC m).length = (2 * m + 1).toNat + 1 := by unfold smallsC; rw [cum_len, smallW_len]
theorem head_span {f : FrT} {p : List Int} (h : okFr f p) {z : Sym} (hz : z ∈ headZ f.1 f.2.1 p 6) : okSpan z.2 z.1 := by
 unfold headZ at hz
 rcases List.mem_cons.1 hz with rfl | hz
 ·have := okFr_k h
  exact ⟨kinds_ok, by simp only; omega, by simp only; rw [kinds_len]; omega⟩
 ·unfold tab6 at hz
  obtain ⟨b, hb, rfl⟩ := List.mem_map.1 hz
  have hb := List.mem_range.1 hb
  have hl := okFr_lv h b hb
  unfold lvP
  split
  ·rename_i k1
   have hn : nearP f.2.1 p := by rcases h.2.2 with h2 | ⟨_, h2⟩ | ⟨h2, _⟩ <;> first | omega | exact h2
   have := hn.2.2 b hb
   exact ⟨changes_ok, by simp only; omega, by simp only; rw [changes_len]; omega⟩
  ·exact ⟨evenC_ok, hl.1, by simp only; rw [evenC_len]; omega⟩
theorem q_span {L Q : List Int} (hL : L.length = 6) (hm : mayP Q L) : ∀ n, n ≤ 16 → ∀ z ∈ qZ L Q n, okSpan z.2 z.1
 | 0, _, z, hz => nomatch hz
 | n + 1, hn, z, hz => by
  simp only [qZ] at hz
  have ih := q_span hL hm n (by omega)
  split at hz
  ·exact ih z hz
  ·rcases List.mem_append.1 hz with hz | hz
   ·exact ih z hz
   ·have := List.mem_singleton.1 hz
    subst this
    have h1 := hm.2 n (by omega)
    have h2 := mostF_range hL hm.1 n
    exact ⟨smalls_ok h2.1 h2.2, by simp only; omega, by simp only; rw [smalls_len]; omega⟩
theorem sym_span {f : FrT} {p : List Int} (hf : sized f) (h : okFr f p) : ∀ z ∈ symZ f p, okSpan z.2 z.1 := by
 intro z hz
 unfold symZ at hz
 rcases List.mem_append.1 hz with hz | hz
 ·exact head_span h hz
 ·split at hz
  ·exact nomatch hz
  ·exact q_span hf.1 h.2.1 16 (Nat.le_refl _) z hz
theorem sym_len (f : FrT) (p : List Int) : 7 ≤ (symZ f p).length ∧ (symZ f p).length ≤ 23 := by
 unfold symZ
 have := qZ_len f.2.1 f.2.2 16
 rw [List.length_append, headZ_len]
 split
 ·simp
 ·omega
noncomputable def writeF (f : FrT) (p : List Int) : List Int := (allF (fsts (symZ f p)) (snds (symZ f p))).1.1
theorem write_all {f : FrT} {p : List Int} (hf : sized f) (h : okFr f p) : ∃ N d, allF (fsts (symZ f p)) (snds (symZ f p)) = ((writeF f p, N), 0) ∧ bytes (writeF f p) ∧ 1 ≤ (writeF f p).length ∧ (writeF f p).length ≤ 600 ∧
  (∀ ns, worthL (symZ f p) ns → 8 * (writeF f p).length ≤ sumN ns + 9) ∧ StartF (writeF f p, 8 * ((writeF f p).length : Int)) = (d, 0) ∧ chain d (symZ f p) := by
 obtain ⟨B, N, d, h1, h2, h3, h4, h5, h6, h7⟩ := code_read (sym_span hf h) (by have := sym_len f p; omega)
 have h1 : allF (fsts (symZ f p)) (snds (symZ f p)) = ((B, N), 0) := h1
 have : writeF f p = B := by unfold writeF; rw [h1]
 rw [this]
 exact ⟨N, d, h1, h2, h3, h4, h5, h6, h7⟩
theorem sym_small {f : FrT} {p : List Int} (hf : sized f) (h : okFr f p) : g_coder_All (fsts (symZ f p)) (snds (symZ f p)) = some (allF (fsts (symZ f p)) (snds (symZ f p))) ∧ g_r04_All (fsts (symZ f p)) (snds (symZ f p)) = some (allF (fsts (symZ f p)) (snds (symZ f p))) := by
 have hl := sym_len f p
 have hs := sym_span hf h
 refine All_same (by unfold small; rw [fsts_len]; omega) (by unfold small; rw [snds_len]; omega) (fun C hC => ?_) (fun s hss => ?_)
 ·obtain ⟨z, hz, rfl⟩ := List.mem_map.1 hC
  exact small_okF (hs z hz).1
 ·obtain ⟨z, hz, rfl⟩ := List.mem_map.1 hss
  have := (hs z hz).2.2; have := (hs z hz).1.2.1
  omega
theorem frame_Write_ok {f : FrT} {p : List Int} (hf : sized f) (hp : p.length = 6) (h : okFr f p) : g_frame_Write f p = some (writeF f p, 0) := by
 have c := frame_Check_eq hf hp
 rw [ckFr_pos h] at c
 obtain ⟨N, d, h1, _⟩ := write_all hf h
 have s := (sym_small hf h).1
 rw [h1] at s
 simp (disch := omega) only [g_frame_Write, c, Option.bind_some, nF, frame_symbols_eq hf hp h, s]
theorem frame_Write_bad {f : FrT} {p : List Int} (hf : sized f) (hp : p.length = 6) (h : ¬ okFr f p) : g_frame_Write f p = some ([], 1) := by
 have c := frame_Check_eq hf hp
 rw [ckFr_neg h] at c
 simp (disch := omega) only [g_frame_Write, c, Option.bind_some, nT]
end Go.Sq
namespace Go.Sq
open Go.Rx
theorem etaD (d : DecT) : (d.1, d.2.1, d.2.2.1, (d.2.2.2.1.1, d.2.2.2.1.2), d.2.2.2.2) = d := rfl
theorem next_fact {d : DecT} {C : List Int} (hd : wfD d) (hC : okF C) : g_coder_Next d C = some (NextF d C) ∧ g_r04_Next d C = some (NextF d C) ∧ wfD (NextF d C).1 ∧ ((NextF d C).2.2 = 0 → 0 ≤ (NextF d C).2.1 ∧ (NextF d C).2.1 + 2 ≤ C.length) := by
 obtain ⟨a1, a2, a3⟩ := NextF_same hd (small_okF hC)
 refine ⟨a1, a2, a3, fun h0 => ?_⟩
 obtain ⟨r, h1, _, h3⟩ := Next_same hd (small_okF hC)
 rw [a1] at h1
 have hr := Option.some.inj h1
 rw [hr] at h0 ⊢
 rcases h3 with ⟨rfl, _⟩ | ⟨lo, hi, c, p, l, _, _, _, _, _, _, _, _, _, _, h4⟩
 ·exact absurd h0 (by decide)
 ·rcases h4 with ⟨rfl, _⟩ | ⟨s, _, hs, rfl⟩
  ·exact absurd h0 (by decide)
  ·have := hs.1
   show 0 ≤ (s : Int) ∧ (s : Int) + 2 ≤ _
   omega
def tabK (k : Int) : List Int := if k = 1 then changesC else evenC
def baseK (k : Int) (p : List Int) (i : Nat) : Int := if k = 1 then p.getD i 0 - 8 else 0
theorem tabK_ok (k : Int) : okF (tabK k) := by
 unfold tabK; split
 ·exact changes_ok
 ·exact evenC_ok
theorem tabK_len (k : Int) : (tabK k).length ≤ 257 := by
 unfold tabK; split
 ·rw [changes_len]; omega
 ·rw [evenC_len]; omega
theorem baseK_range {k : Int} {p : List Int} (h : lv p) {i : Nat} (hi : i < 6) : -8 ≤ baseK k p i ∧ baseK k p i ≤ 247 := by
 have := h i hi
 unfold baseK; split <;> omega
noncomputable def lvR (k : Int) (p : List Int) (d : DecT) : Nat → Option (DecT × List Int)
 | 0 => some (d, List.replicate 6 0)
 | i + 1 => match lvR k p d i with
  | none => none
  | some x => if (NextF x.1 (tabK k)).2.2 = 0 then some ((NextF x.1 (tabK k)).1, x.2.set i ((NextF x.1 (tabK k)).2.1 + baseK k p i)) else none
noncomputable def qR (L : List Int) (d : DecT) : Nat → Option (DecT × List Int)
 | 0 => some (d, List.replicate 16 0)
 | n + 1 => match qR L d n with
  | none => none
  | some x => if wideF L n = 0 then some x else
    if (NextF x.1 (smallsC (mostF L n))).2.2 = 0 then some ((NextF x.1 (smallsC (mostF L n))).1, x.2.set n ((NextF x.1 (smallsC (mostF L n))).2.1 - mostF L n)) else none
theorem lvR_facts {k : Int} {p : List Int} (hp : lv p) {d : DecT} (hd : wfD d) : ∀ i, i ≤ 6 → ∀ e L, lvR k p d i = some (e, L) → wfD e ∧ L.length = 6 ∧ ∀ j, j < 6 → -8 ≤ L.getD j 0 ∧ L.getD j 0 ≤ 600
 | 0, _, e, L, h => by
  cases h
  exact ⟨hd, by simp, fun j hj => by rw [rep0]; omega⟩
 | i + 1, hi, e, L, h => by
  simp only [lvR] at h
  cases hx : lvR k p d i with
  | none => rw [hx] at h; cases h
  | some x =>
   obtain ⟨e0, L0⟩ := x
   rw [hx] at h
   simp only at h
   obtain ⟨f1, f2, f3⟩ := lvR_facts hp hd i (by omega) e0 L0 hx
   have nf := next_fact f1 (tabK_ok k)
   split at h
   ·rename_i h0
    have h := Option.some.inj h
    have r := nf.2.2.2 h0
    have b := baseK_range (k := k) hp (show i < 6 by omega)
    have tl := tabK_len k
    have e1 := congrArg (·.1) h
    have e2 := congrArg (·.2) h
    simp only at e1 e2
    refine ⟨e1 ▸ nf.2.2.1, by rw [← e2, List.length_set]; exact f2, fun j hj => ?_⟩
    rw [← e2, set_getD _ _ _ _ _ (by omega)]
    have := f3 j hj
    split <;> omega
   ·cases h
theorem lvR_none {k : Int} {p : List Int} {d : DecT} : ∀ i j, lvR k p d i = none → i ≤ j → lvR k p d j = none
  | i, 0, h, hij => by have : i = 0 := by omega
                       subst this; exact h
  | i, j + 1, h, hij => by
    by_cases hc : i = j + 1
    · subst hc; exact h
    · simp only [lvR]; rw [lvR_none i j h (by omega)]
theorem smalls_of {L : List Int} (hL : L.length = 6) (hl : lv L) (n : Nat) : okF (smallsC (mostF L n)) := smalls_ok (mostF_range hL hl n).1 (mostF_range hL hl n).2
theorem qR_facts {L : List Int} (hL : L.length = 6) (hl : lv L) {d : DecT} (hd : wfD d) : ∀ n, n ≤ 16 → ∀ e Q, qR L d n = some (e, Q) → wfD e ∧ Q.length = 16 ∧ ∀ j, j < 16 → -127 ≤ Q.getD j 0 ∧ Q.getD j 0 ≤ 127
 | 0, _, e, Q, h => by
  cases h
  exact ⟨hd, by simp, fun j hj => by rw [rep0]; omega⟩
 | n + 1, hn, e, Q, h => by
  simp only [qR] at h
  cases hx : qR L d n with
  | none => rw [hx] at h; cases h
  | some x =>
   obtain ⟨e0, Q0⟩ := x
   rw [hx] at h
   simp only at h
   obtain ⟨f1, f2, f3⟩ := qR_facts hL hl hd n (by omega) e0 Q0 hx
   have nf := next_fact f1 (smalls_of hL hl n)
   have m := mostF_range hL hl n
   split at h
   ·have h := Option.some.inj h
    have e1 := congrArg (·.1) h
    have e2 := congrArg (·.2) h
    simp only at e1 e2
    subst e1; subst e2
    exact ⟨f1, f2, f3⟩
   ·split at h
    ·rename_i h0
     have h := Option.some.inj h
     have r := nf.2.2.2 h0
     rw [smalls_len] at r
     have e1 := congrArg (·.1) h
     have e2 := congrArg (·.2) h
     simp only at e1 e2
     refine ⟨e1 ▸ nf.2.2.1, by rw [← e2, List.length_set]; exact f2, fun j hj => ?_⟩
     rw [← e2, set_getD _ _ _ _ _ (by omega)]
     have := f3 j hj
     split <;> omega
    ·cases h
theorem qR_none {L : List Int} {d : DecT} : ∀ i j, qR L d i = none → i ≤ j → qR L d j = none
  | i, 0, h, hij => by have : i = 0 := by omega
                       subst this; exact h
  | i, j + 1, h, hij => by
    by_cases hc : i = j + 1
    · subst hc; exact h
    · simp only [qR]; rw [qR_none i j h (by omega)]
def zFr : FrT := (0, (List.replicate 6 0, List.replicate 16 0))
open Classical in
/-- behind the kind -/
noncomputable def restF (k : Int) (p : List Int) (d : DecT) : Option FrT :=
  match lvR k p d 6 with
  | none => none
  | some x => if k = 2 then some (2, (x.2, List.replicate 16 0)) else if ¬ lv x.2 then none else
    match qR x.2 x.1 16 with
    | none => none
    | some y => some (k, (x.2, y.2))
noncomputable def guessF (b p : List Int) : Option FrT :=
 if b.length > 40 then none else if (StartF (b, 8 * (b.length : Int))).2 ≠ 0 then none else
 if (NextF (StartF (b, 8 * (b.length : Int))).1 kindsC).2.2 ≠ 0 then none else
 restF (NextF (StartF (b, 8 * (b.length : Int))).1 kindsC).2.1 p (NextF (StartF (b, 8 * (b.length : Int))).1 kindsC).1
open Classical in
noncomputable def readF (b p : List Int) : FrT × Int :=
 if ¬ lv p then (zFr, 1) else match guessF b p with
 | none => (zFr, 21)
 | some f => if okFr f p ∧ writeF f p = b then (f, 0) else (zFr, 21)
theorem rd_base {p : List Int} {f : FrT} {t : List Int} {r : DecT × Int} (hp : p.length = 6) (h : lv p) : iter g_frame_Read_r1 (p, 0, f, t, p, r, ()) = some (p, f, t, tab6 (fun b => p.getD b 0 - 8) 6, r, ()) := by
 rw [← fillN_eq hp]
 exact iter_count (f := g_frame_Read_r1) (fun i => (p, (i : Int), f, t, fillN (fun b => p.getD b 0 - 8) i p, r, ())) 6 (fun i hi => by
  have e : (fillN (fun b => p.getD b 0 - 8) i p).getD i 0 = p.getD i 0 := by rw [fillN_get _ _ _ _ _ (by omega), if_neg (by omega)]
  have := h i hi
  simp (disch := omega) only [g_frame_Read_r1, dT, wT, Int.toNat_natCast, e, wrap_succ, fill_step]
  rw [wrap_i64 (by omega) (by omega)]) (by simp (disch := omega) only [g_frame_Read_r1, dF])
theorem rd_levels {k : Int} {p base : List Int} {Q : List Int} {d : DecT} (hp : lv p) (hd : wfD d) (hb : ∀ i, i < 6 → base.getD i 0 = baseK k p i) :
  (∃ e L, lvR k p d 6 = some (e, L) ∧ iter g_frame_Read_r2 (p, 0, (k, (List.replicate 6 0, Q)), tabK k, base, (d, 0), ()) = some (.inl (p, (k, (L, Q)), (e, 0), ()))) ∨
  (lvR k p d 6 = none ∧ ∃ g r, iter g_frame_Read_r2 (p, 0, (k, (List.replicate 6 0, Q)), tabK k, base, (d, 0), ()) = some (.inr (p, false, g, r, ()))) := by
 obtain ⟨r, h1, h2⟩ := iter_ex (f := g_frame_Read_r2) (fun x => (6 - x.2.1).toNat) (fun x => ∃ (i : Nat) (e : DecT) (L : List Int), x = (p, (i : Int), (k, (L, Q)), tabK k, base, (e, 0), ()) ∧ i ≤ 6 ∧ lvR k p d i = some (e, L))
  (fun r => (∃ e L, lvR k p d 6 = some (e, L) ∧ r = .inl (p, (k, (L, Q)), (e, 0), ())) ∨ (lvR k p d 6 = none ∧ ∃ g y, r = .inr (p, false, g, y, ()))) (by
   rintro x ⟨i, e, L, rfl, hi, hr⟩
   by_cases h6 : i < 6
   ·obtain ⟨f1, f2, f3⟩ := lvR_facts hp hd i hi e L hr
    have nf := next_fact f1 (tabK_ok k)
    have b := baseK_range (k := k) hp h6
    have hbi := hb i h6
    have hL := f3 i h6
    by_cases h0 : (NextF e (tabK k)).2.2 = 0
    ·left
     have rr := nf.2.2.2 h0
     have tl := tabK_len k
     refine ⟨(p, ((i + 1 : Nat) : Int), (k, (L.set i ((NextF e (tabK k)).2.1 + baseK k p i), Q)), tabK k, base, ((NextF e (tabK k)).1, 0), ()), ?_, ⟨i + 1, _, _, rfl, h6, ?_⟩, by simp only; omega⟩
     ·simp (disch := omega) only [g_frame_Read_r2, dT, wT, Int.toNat_natCast, beq_self_eq_true, cond_true, etaD, nf.1, Option.bind_some, h0, Bool.not_true, cond_false, hbi, wrap_i64]
      rfl
     ·simp only [lvR]; rw [hr]; simp only; rw [if_pos h0]
    ·right
     have hn : lvR k p d (i + 1) = none := by simp only [lvR]; rw [hr]; simp only; rw [if_neg h0]
     refine ⟨.inr (p, false, (k, (L, Q)), ((NextF e (tabK k)).1, (NextF e (tabK k)).2.2), ()), ?_, .inr ⟨lvR_none (i + 1) 6 hn (by omega), _, _, rfl⟩⟩
     have hz : ((NextF e (tabK k)).2.2 == 0) = false := beq_false_of_ne h0
     simp (disch := omega) only [g_frame_Read_r2, dT, wT, Int.toNat_natCast, beq_self_eq_true, cond_true, etaD, nf.1, Option.bind_some, hz, Bool.not_false]
   ·right
    have : i = 6 := by omega
    subst this
    refine ⟨_, ?_, .inl ⟨e, L, hr, rfl⟩⟩
    simp (disch := omega) only [g_frame_Read_r2, dF]) (p, 0, (k, (List.replicate 6 0, Q)), tabK k, base, (d, 0), ()) ⟨0, d, _, rfl, by omega, rfl⟩
 rcases h2 with ⟨e, L, h3, rfl⟩ | ⟨h3, g, y, rfl⟩
 ·exact .inl ⟨e, L, h3, h1⟩
 ·exact .inr ⟨h3, g, y, h1⟩
theorem rd_numbers {k : Int} {p L : List Int} {d : DecT} (hL : L.length = 6) (hl : lv L) (hd : wfD d) :
  (∃ e Q, qR L d 16 = some (e, Q) ∧ iter g_frame_Read_r3 (p, 0, (k, (L, List.replicate 16 0)), shareF L, (d, 0), ()) = some (.inl (p, (k, (L, Q)), (e, 0), ()))) ∨
  (qR L d 16 = none ∧ ∃ g r, iter g_frame_Read_r3 (p, 0, (k, (L, List.replicate 16 0)), shareF L, (d, 0), ()) = some (.inr (p, false, g, r, ()))) := by
 obtain ⟨r, h1, h2⟩ := iter_ex (f := g_frame_Read_r3) (fun x => (16 - x.2.1).toNat) (fun x => ∃ (i : Nat) (e : DecT) (Q : List Int), x = (p, (i : Int), (k, (L, Q)), shareF L, (e, 0), ()) ∧ i ≤ 16 ∧ qR L d i = some (e, Q))
  (fun r => (∃ e Q, qR L d 16 = some (e, Q) ∧ r = .inl (p, (k, (L, Q)), (e, 0), ())) ∨ (qR L d 16 = none ∧ ∃ g y, r = .inr (p, false, g, y, ()))) (by
   rintro x ⟨i, e, Q, rfl, hi, hr⟩
   by_cases h6 : i < 16
   ·obtain ⟨f1, f2, f3⟩ := qR_facts hL hl hd i hi e Q hr
    have nf := next_fact f1 (smalls_of hL hl i)
    have m := mostF_range hL hl i
    have hw := wideF_range hL hl i
    have hQ := f3 i h6
    have hb := band_lt i
    have ew : (shareF L).getD (bandOf i) 0 = wideF L i := rfl
    by_cases hz : wideF L i = 0
    ·left
     refine ⟨(p, ((i + 1 : Nat) : Int), (k, (L, Q)), shareF L, (e, 0), ()), ?_, ⟨i + 1, e, Q, rfl, h6, ?_⟩, by simp only; omega⟩
     ·simp (disch := omega) only [g_frame_Read_r3, dT, wT, Int.toNat_natCast, bands_Of_eq h6, Option.bind_some, ew, eT, etaD, wrap_succ]
     ·simp only [qR]; rw [hr]; simp only; rw [if_pos hz]
    ·have em : mostS (wideF L i) = mostF L i := by unfold mostF; rw [if_neg hz]
     by_cases h0 : (NextF e (smallsC (mostF L i))).2.2 = 0
     ·left
      have rr := nf.2.2.2 h0
      rw [smalls_len] at rr
      refine ⟨(p, ((i + 1 : Nat) : Int), (k, (L, Q.set i ((NextF e (smallsC (mostF L i))).2.1 - mostF L i))), shareF L, ((NextF e (smallsC (mostF L i))).1, 0), ()), ?_, ⟨i + 1, _, _, rfl, h6, ?_⟩, by simp only; omega⟩
      ·simp (disch := omega) only [g_frame_Read_r3, dT, wT, Int.toNat_natCast, bands_Of_eq h6, Option.bind_some, ew, eF, quant_Most_eq hw.1 hw.2, em, frame_smalls_eq m.1 m.2, beq_self_eq_true, cond_true, etaD, nf.1, h0, Bool.not_true, cond_false, wrap_i64]
       rfl
      ·simp only [qR]; rw [hr]; simp only; rw [if_neg hz, if_pos h0]
     ·right
      have hn : qR L d (i + 1) = none := by simp only [qR]; rw [hr]; simp only; rw [if_neg hz, if_neg h0]
      refine ⟨.inr (p, false, (k, (L, Q)), ((NextF e (smallsC (mostF L i))).1, (NextF e (smallsC (mostF L i))).2.2), ()), ?_, .inr ⟨qR_none (i + 1) 16 hn (by omega), _, _, rfl⟩⟩
      have hzz : ((NextF e (smallsC (mostF L i))).2.2 == 0) = false := beq_false_of_ne h0
      simp (disch := omega) only [g_frame_Read_r3, dT, wT, Int.toNat_natCast, bands_Of_eq h6, Option.bind_some, ew, eF, quant_Most_eq hw.1 hw.2, em, frame_smalls_eq m.1 m.2, beq_self_eq_true, cond_true, etaD, nf.1, hzz, Bool.not_false]
   ·right
    have : i = 16 := by omega
    subst this
    refine ⟨_, ?_, .inl ⟨e, Q, hr, rfl⟩⟩
    simp (disch := omega) only [g_frame_Read_r3, dF]) (p, 0, (k, (L, List.replicate 16 0)), shareF L, (d, 0), ()) ⟨0, d, _, rfl, by omega, rfl⟩
 rcases h2 with ⟨e, Q, h3, rfl⟩ | ⟨h3, g, y, rfl⟩
 ·exact .inl ⟨e, Q, h3, h1⟩
 ·exact .inr ⟨h3, g, y, h1⟩
end Go.Sq
namespace Go.Sq
open Go.Rx
theorem bytesEqual_eq {a b : List Int} (ha : small a) (hb : small b) : g_slices_Equal_Sbyte_byte a b = some (decide (a = b)) := by
 unfold small at ha hb
 by_cases hl : a.length = b.length
 ·have step : ∀ i, i < a.length → a.getD i 0 = b.getD i 0 → g_slices_Equal_Sbyte_byte_r1 (a, b, (a.length : Int), (i : Int), ()) = some (.inl (a, b, (a.length : Int), ((i + 1 : Nat) : Int), ())) := fun i hi he => by
   simp (disch := omega) only [g_slices_Equal_Sbyte_byte_r1, dT, wT, Int.toNat_natCast, nF, wrap_i64]
   rfl
  rcases first_not (fun i => a.getD i 0 = b.getD i 0) a.length with h | ⟨k, hk, h, hn⟩
  ·have a1 : iter g_slices_Equal_Sbyte_byte_r1 (a, b, (a.length : Int), 0, ()) = some (.inl ()) := iter_count (fun i => (a, b, (a.length : Int), (i : Int), ())) a.length (fun i hi => step i hi (h i hi)) (by simp (disch := omega) only [g_slices_Equal_Sbyte_byte_r1, dF])
   simp (disch := omega) only [g_slices_Equal_Sbyte_byte, nF, a1, Option.bind_some]
   rw [decide_eq_true (list_ext_getD 0 hl h)]
  ·have a1 : iter g_slices_Equal_Sbyte_byte_r1 (a, b, (a.length : Int), 0, ()) = some (.inr (false, ())) := iter_count (fun i => (a, b, (a.length : Int), (i : Int), ())) k (fun i hi => step i (by omega) (h i hi)) (by simp (disch := omega) only [g_slices_Equal_Sbyte_byte_r1, dT, wT, Int.toNat_natCast, nT])
   simp (disch := omega) only [g_slices_Equal_Sbyte_byte, nF, a1, Option.bind_some]
   rw [decide_eq_false fun e => hn (by rw [e])]
 ·simp (disch := omega) only [g_slices_Equal_Sbyte_byte, nT]
  rw [decide_eq_false fun e => hl (by rw [e])]
theorem bits_Of_eq {b : List Int} (h : b.length ≤ 1000) : g_bits_Of b = some (b, 8 * (b.length : Int)) := by
 simp (disch := omega) only [g_bits_Of, dF, clone_eq, Option.bind_some, wrap_i64]
theorem start_bytes {b : List Int} (hb : bytes b) (h : b.length ≤ 1000) : ∃ d, StartF (b, 8 * (b.length : Int)) = (d, 0) ∧ wfD d := by
 have hp := pk_bits8 b [] hb
 rw [List.append_nil] at hp
 have e : b = pk (bits8 b) := by rw [hp]; simp [pk]
 have hl := bits8_len b
 have hs := coder_Start_ok (l := bits8 b) (by omega)
 rw [← e, hl] at hs
 have hw := (StartF_same (B := b) (N := 8 * (b.length : Int)) hb (by unfold small; omega)).2.2
 have : StartF (b, 8 * (b.length : Int)) = ((0, (4294967295, (codeS (bits8 b) 32, ((b, ((8 * b.length : Nat) : Int)), 32)))), 0) := by
  unfold StartF
  rw [show (8 : Int) * (b.length : Int) = ((8 * b.length : Nat) : Int) by omega, hs]; rfl
 rw [this] at hw ⊢
 exact ⟨_, rfl, hw⟩
theorem zFr_sized : sized zFr := ⟨by simp [zFr], by simp [zFr]⟩
theorem guess_sized {b p : List Int} (hb : bytes b) (hp : lv p) {f : FrT} (h : guessF b p = some f) : sized f ∧ b.length ≤ 40 := by
 unfold guessF at h
 split at h
 ·cases h
 rename_i hl
 obtain ⟨d, h1, h2⟩ := start_bytes hb (show b.length ≤ 1000 by omega)
 rw [h1] at h
 have nk := next_fact h2 kinds_ok
 split at h
 ·cases h
 split at h
 ·cases h
 unfold restF at h
 split at h
 ·cases h
 ·rename_i x hx
  obtain ⟨f1, f2, f3⟩ := lvR_facts hp nk.2.2.1 6 (Nat.le_refl _) x.1 x.2 hx
  split at h
  ·cases h; exact ⟨⟨f2, by simp⟩, by omega⟩
  ·split at h
   ·cases h
   ·rename_i hlv
    split at h
    ·cases h
    ·rename_i y hy
     obtain ⟨g1, g2, g3⟩ := qR_facts f2 (Classical.not_not.1 hlv) f1 16 (Nat.le_refl _) y.1 y.2 hy
     cases h; exact ⟨⟨f2, g2⟩, by omega⟩
theorem read_rest {b p : List Int} {f : FrT} (hb : bytes b) (hp : p.length = 6) (hf : sized f) (hl : b.length ≤ 40) :
  ((g_frame_Write f p).bind fun y33 =>
   ((bif (y33.2 != 0) then some (true, (f.1, (f.2.1, f.2.2)), ())
    else (g_slices_Equal_Sbyte_byte y33.1 b).bind fun y34 => some ((!y34), (f.1, (f.2.1, f.2.2)), ()) : Option ((Bool × (Int × List Int × List Int) × Unit)))).bind fun j35 =>
   bif j35.1 then some (((0 : Int), ((List.replicate 6 (0 : Int)), (List.replicate 16 (0 : Int)))), (21 : Int)) else some ((j35.2.1.1, (j35.2.1.2.1, j35.2.1.2.2)), 0)) =
  some (open Classical in if okFr f p ∧ writeF f p = b then (f, 0) else (zFr, 21)) := by
 by_cases h : okFr f p
 ·have w := frame_Write_ok hf hp h
  obtain ⟨N, d, _, _, _, w2, _⟩ := write_all hf h
  have e := bytesEqual_eq (a := writeF f p) (b := b) (by unfold small; omega) (by unfold small; omega)
  by_cases hw : writeF f p = b
  ·rw [if_pos ⟨h, hw⟩]
   rw [decide_eq_true hw] at e
   simp (disch := omega) only [w, Option.bind_some, nF, e, Bool.not_true, cond_false]
  ·rw [if_neg fun hh => hw hh.2]
   rw [decide_eq_false hw] at e
   simp (disch := omega) only [w, Option.bind_some, nF, e, Bool.not_false, cond_true]
   rfl
 ·have w := frame_Write_bad hf hp h
  rw [if_neg fun hh => h hh.1]
  simp (disch := omega) only [w, Option.bind_some, nT, cond_true]
  rfl
theorem frame_Read_eq {b p : List Int} (hb : bytes b) (hs : small b) (hp : p.length = 6) : g_frame_Read b p = some (readF b p) := by
  unfold small at hs
  have c := bands_Check_eq hp
  by_cases hl : lv p
  · rw [ckL_pos hl] at c
    unfold readF
    rw [if_neg (by simpa using hl)]
    have gs := fun f : FrT => guess_sized hb hl (b := b) (p := p) (f := f)
    unfold guessF at gs ⊢
    by_cases h40 : b.length > 40
    · rw [if_pos h40]
      simp (disch := omega) only [g_frame_Read, c, Option.bind_some, nF, dT, frame_kinds_eq, eF, beq_false_of_ne (show (21 : Int) ≠ 0 by decide), Bool.not_false, cond_true]
      rfl
    · rw [if_neg h40] at gs ⊢
      obtain ⟨d, h1, h2⟩ := start_bytes hb (show b.length ≤ 1000 by omega)
      have st := (StartF_same (B := b) (N := 8 * (b.length : Int)) hb (by unfold small; omega)).1
      rw [h1] at gs ⊢
      rw [h1] at st
      rw [if_neg (by simp)] at gs ⊢
      have nk := next_fact h2 kinds_ok
      simp only at gs ⊢
      generalize hx : NextF d kindsC = x at nk gs ⊢
      obtain ⟨d1, k, e⟩ := x
      simp only at nk gs ⊢
      by_cases he : e = 0
      · subst he
        rw [if_neg (by simp)] at gs ⊢
        -- the levels
        have lvs : ∀ base : List Int, (∀ i, i < 6 → base.getD i 0 = baseK k p i) → _ := fun base hb' => rd_levels (Q := List.replicate 16 0) hl nk.2.2.1 hb'
        have key : ∀ base : List Int, (∀ i, i < 6 → base.getD i 0 = baseK k p i) →
            (∃ f, restF k p d1 = some f ∧ ((iter g_frame_Read_r2 (p, 0, (k, (List.replicate 6 0, List.replicate 16 0)), tabK k, base, (d1, 0), ())).bind fun j16 =>
                  (match j16 with
                  | .inl j17 =>
                    (bif (j17.2.1.1 == 2) then some (b, false, p, (j17.2.1.1, (j17.2.1.2.1, j17.2.1.2.2)), ())
                    else (g_bands_Share j17.2.1.2.1 120).bind fun y19 =>
                      bif (y19.2 != 0) then some (b, true, p, (j17.2.1.1, (j17.2.1.2.1, j17.2.1.2.2)), ())
                      else (iter (g_frame_Read_r3) (j17.1, 0, (j17.2.1.1, (j17.2.1.2.1, j17.2.1.2.2)), y19.1, ((j17.2.2.1.1.1, (j17.2.2.1.1.2.1, (j17.2.2.1.1.2.2.1, ((j17.2.2.1.1.2.2.2.1.1, j17.2.2.1.1.2.2.2.1.2), j17.2.2.1.1.2.2.2.2)))), j17.2.2.1.2), ())).bind fun j29 =>
                      (match j29 with
                      | .inl j30 => (some (b, false, p, (j30.2.1.1, (j30.2.1.2.1, j30.2.1.2.2)), ()))
                      | .inr j31 => (some (b, (!j31.2.1), p, (j31.2.2.1.1, (j31.2.2.1.2.1, j31.2.2.1.2.2)), ()))))
                  | .inr j18 => (some (b, (!j18.2.1), p, (j18.2.2.1.1, (j18.2.2.1.2.1, j18.2.2.1.2.2)), ())) : Option (List Int × Bool × List Int × FrT × Unit))) = some (b, false, p, f, ())) ∨
            (restF k p d1 = none ∧ ∃ f, ((iter g_frame_Read_r2 (p, 0, (k, (List.replicate 6 0, List.replicate 16 0)), tabK k, base, (d1, 0), ())).bind fun j16 =>
                  (match j16 with
                  | .inl j17 =>
                    (bif (j17.2.1.1 == 2) then some (b, false, p, (j17.2.1.1, (j17.2.1.2.1, j17.2.1.2.2)), ())
                    else (g_bands_Share j17.2.1.2.1 120).bind fun y19 =>
                      bif (y19.2 != 0) then some (b, true, p, (j17.2.1.1, (j17.2.1.2.1, j17.2.1.2.2)), ())
                      else (iter (g_frame_Read_r3) (j17.1, 0, (j17.2.1.1, (j17.2.1.2.1, j17.2.1.2.2)), y19.1, ((j17.2.2.1.1.1, (j17.2.2.1.1.2.1, (j17.2.2.1.1.2.2.1, ((j17.2.2.1.1.2.2.2.1.1, j17.2.2.1.1.2.2.2.1.2), j17.2.2.1.1.2.2.2.2)))), j17.2.2.1.2), ())).bind fun j29 =>
                      (match j29 with
                      | .inl j30 => (some (b, false, p, (j30.2.1.1, (j30.2.1.2.1, j30.2.1.2.2)), ()))
                      | .inr j31 => (some (b, (!j31.2.1), p, (j31.2.2.1.1, (j31.2.2.1.2.1, j31.2.2.1.2.2)), ()))))
                  | .inr j18 => (some (b, (!j18.2.1), p, (j18.2.2.1.1, (j18.2.2.1.2.1, j18.2.2.1.2.2)), ())) : Option (List Int × Bool × List Int × FrT × Unit))) = some (b, true, p, f, ())) := by
          intro base hb'
          unfold restF
          rcases lvs base hb' with ⟨e1, L, r1, r2⟩ | ⟨r1, g, r, r2⟩
          · rw [r1, r2]
            obtain ⟨f1, f2, f3⟩ := lvR_facts hl nk.2.2.1 6 (Nat.le_refl _) e1 L r1
            simp only [Option.bind_some]
            by_cases k2 : k = 2
            · rw [if_pos k2]
              refine .inl ⟨_, rfl, ?_⟩
              rw [eT k2, k2]
            · rw [if_neg k2, eF k2]
              by_cases hlv : lv L
              · rw [if_neg (by simpa using hlv)]
                have sh := (shareF_ok f2 hlv).1
                simp (disch := omega) only [sh, Option.bind_some, nF, etaD]
                rcases rd_numbers (k := k) (p := p) f2 hlv f1 with ⟨e2, Q, r3, r4⟩ | ⟨r3, g, r, r4⟩
                · rw [r3, r4]
                  exact .inl ⟨_, rfl, rfl⟩
                · rw [r3, r4]
                  exact .inr ⟨rfl, _, rfl⟩
              · rw [if_pos hlv]
                have sh := (Share_bad f2 hlv).1
                simp (disch := omega) only [sh, Option.bind_some, nT]
                exact .inr ⟨trivial, _, rfl⟩
          · rw [r1, r2]
            exact .inr ⟨rfl, _, rfl⟩
        by_cases k1 : k = 1
        · have tk : tabK k = changesC := by unfold tabK; rw [if_pos k1]
          have hbs : ∀ i, i < 6 → (tab6 (fun b => p.getD b 0 - 8) 6).getD i 0 = baseK k p i := fun i hi => by rw [tab6_get _ _ _ _ hi]; unfold baseK; rw [if_pos k1]
          have key := key _ hbs
          rw [tk] at key
          simp (disch := omega) only [g_frame_Read, c, Option.bind_some, nF, dF, bits_Of_eq (show b.length ≤ 1000 by omega), st, frame_kinds_eq, eT, etaD, nk.1, beq_self_eq_true, Bool.not_true, cond_false, cond_true, frame_levels_eq, frame_changes_eq, rd_base hp hl]
          rcases key with ⟨f, q1, q2⟩ | ⟨q1, f, q2⟩
          · rw [q1] at gs ⊢
            have gs := gs f rfl
            refine (congrArg (fun o => Option.bind o _) q2).trans ?_
            simp only [Option.bind_some, cond_false]
            exact read_rest hb hp gs.1 (by omega)
          · rw [q1]
            refine (congrArg (fun o => Option.bind o _) q2).trans ?_
            simp only [Option.bind_some, cond_true]; rfl
        · have tk : tabK k = evenC := by unfold tabK; rw [if_neg k1]
          have hbs : ∀ i, i < 6 → (List.replicate 6 (0 : Int)).getD i 0 = baseK k p i := fun i hi => by rw [rep0]; unfold baseK; rw [if_neg k1]
          have key := key _ hbs
          rw [tk] at key
          simp (disch := omega) only [g_frame_Read, c, Option.bind_some, nF, dF, bits_Of_eq (show b.length ≤ 1000 by omega), st, frame_kinds_eq, eF, etaD, nk.1, beq_self_eq_true, Bool.not_true, cond_false, cond_true, frame_levels_eq]
          rcases key with ⟨f, q1, q2⟩ | ⟨q1, f, q2⟩
          · rw [q1] at gs ⊢
            have gs := gs f rfl
            refine (congrArg (fun o => Option.bind o _) q2).trans ?_
            simp only [Option.bind_some, cond_false]
            exact read_rest hb hp gs.1 (by omega)
          · rw [q1]
            refine (congrArg (fun o => Option.bind o _) q2).trans ?_
            simp only [Option.bind_some, cond_true]; rfl
      · rw [if_pos he]
        have hz : (e == 0) = false := beq_false_of_ne he
        simp (disch := omega) only [g_frame_Read, c, Option.bind_some, nF, dF, bits_Of_eq (show b.length ≤ 1000 by omega), st, frame_kinds_eq, beq_self_eq_true, cond_true, etaD, nk.1, hz, Bool.not_false]
        rfl
  · rw [ckL_neg hl] at c
    unfold readF
    rw [if_pos hl]
    simp (disch := omega) only [g_frame_Read, c, Option.bind_some, nT]
    rfl
end Go.Sq
namespace Go.Sq
open Go.Rx
theorem lv_back {k : Int} {L p : List Int} (hL : L.length = 6) {rest : List Sym} {d : DecT} {q : List Int} : ∀ (m i : Nat), i + m = 6 → ∀ e M, lvR k q d i = some (e, M) → chain e (((List.range' i m).map (lvP k L p)) ++ rest) →
  ∃ e' M', lvR k q d 6 = some (e', M') ∧ chain e' rest ∧ M'.length = M.length ∧ (∀ j, j < i → M'.getD j 0 = M.getD j 0) ∧ ∀ j, i ≤ j → j < 6 → M.length = 6 → M'.getD j 0 = (lvP k L p j).1 + baseK k q j
 | 0, i, hi, e, M, h, hc => by
  have : i = 6 := by omega
  subst this
  exact ⟨e, M, h, by simpa using hc, rfl, fun _ _ => rfl, fun j h1 h2 => by omega⟩
 | m + 1, i, hi, e, M, h, hc => by
  rw [List.range'_succ, List.map_cons, List.cons_append] at hc
  obtain ⟨h1, h2⟩ := hc
  have ht : (lvP k L p i).2 = tabK k := by unfold lvP tabK; split <;> rfl
  rw [ht] at h1 h2
  have hs : lvR k q d (i + 1) = some ((NextF e (tabK k)).1, M.set i ((lvP k L p i).1 + baseK k q i)) := by
   simp only [lvR]; rw [h]; simp only; rw [h1, if_pos rfl]
  obtain ⟨e', M', r1, r2, r3, r4, r5⟩ := lv_back hL m (i + 1) (by omega) _ _ hs h2
  refine ⟨e', M', r1, r2, by rw [r3, List.length_set], fun j hj => ?_, fun j h3 h4 h5 => ?_⟩
  ·rw [r4 j (by omega)]
   simp only [List.getD_eq_getElem?_getD]
   rw [List.getElem?_set_ne (by omega)]
  ·by_cases hj : j = i
   ·subst hj
    rw [r4 j (by omega), set_getD _ _ _ _ _ (by omega), if_pos rfl]
   ·exact r5 j (by omega) h4 (by rw [List.length_set]; exact h5)
noncomputable def gZ (L Q : List Int) (n : Nat) : List Sym := if wideF L n = 0 then [] else [(Q.getD n 0 + mostF L n, smallsC (mostF L n))]
theorem qZ_flat (L Q : List Int) : ∀ n, qZ L Q n = ((List.range n).map (gZ L Q)).flatten
 | 0 => rfl
 | n + 1 => by
  rw [List.range_succ, List.map_append, List.flatten_append, ← qZ_flat L Q n]
  simp only [qZ, gZ, List.map_cons, List.map_nil, List.flatten_cons, List.flatten_nil, List.append_nil]
  split
  ·rw [List.append_nil]
  ·rfl
theorem q_back {L Q : List Int} (hm : mayP Q L) {d : DecT} : ∀ (m n : Nat), n + m = 16 → ∀ e M, qR L d n = some (e, M) → M.length = 16 → (∀ j, j < n → M.getD j 0 = Q.getD j 0) → (∀ j, n ≤ j → M.getD j 0 = 0) → chain e (((List.range' n m).map (gZ L Q)).flatten) →
  ∃ e' M', qR L d 16 = some (e', M') ∧ M'.length = 16 ∧ ∀ j, j < 16 → M'.getD j 0 = Q.getD j 0
 | 0, n, hn, e, M, h, hM, h1, _, _ => by
  have : n = 16 := by omega
  subst this
  exact ⟨e, M, h, hM, h1⟩
 | m + 1, n, hn, e, M, h, hM, h1, h2, hc => by
  rw [List.range'_succ, List.map_cons, List.flatten_cons] at hc
  unfold gZ at hc
  by_cases hz : wideF L n = 0
  ·rw [if_pos hz, List.nil_append] at hc
   have hs : qR L d (n + 1) = some (e, M) := by simp only [qR]; rw [h]; simp only; rw [if_pos hz]
   refine q_back hm m (n + 1) (by omega) e M hs hM (fun j hj => ?_) (fun j hj => h2 j (by omega)) hc
   by_cases hj' : j = n
   ·subst hj'
    have := hm.2 j (by omega)
    unfold mostF at this
    rw [if_pos hz] at this
    rw [h2 j (by omega)]; omega
   ·exact h1 j (by omega)
  ·rw [if_neg hz, List.singleton_append] at hc
   obtain ⟨c1, c2⟩ := hc
   have hs : qR L d (n + 1) = some ((NextF e (smallsC (mostF L n))).1, M.set n (Q.getD n 0)) := by
    simp only [qR]; rw [h]; simp only; rw [if_neg hz, c1, if_pos rfl]
    simp only [Int.add_sub_cancel]
   refine q_back hm m (n + 1) (by omega) _ _ hs (by rw [List.length_set]; exact hM) (fun j hj => ?_) (fun j hj => ?_) c2
   ·rw [set_getD _ _ _ _ _ (by omega)]
    split
    ·rename_i e; rw [e]
    ·exact h1 j (by omega)
   ·rw [set_getD _ _ _ _ _ (by omega), if_neg (by omega)]
    exact h2 j (by omega)
theorem range_0 (n : Nat) : List.range n = List.range' 0 n := List.range_eq_range'
theorem rest_back {f : FrT} {p : List Int} (hf : sized f) (h : okFr f p) {d : DecT} (hc : chain d (tab6 (lvP f.1 f.2.1 p) 6 ++ if f.1 = 2 then [] else qZ f.2.1 f.2.2 16)) : restF f.1 p d = some f := by
 obtain ⟨k, L, Q⟩ := f
 have hL : L.length = 6 := hf.1
 have hQ : Q.length = 16 := hf.2
 simp only at hc ⊢
 unfold tab6 at hc
 rw [range_0] at hc
 obtain ⟨e, M, r1, r2, r3, _, r5⟩ := lv_back (q := p) hL 6 0 rfl d (List.replicate 6 0) rfl hc
 have hM : M = L := by
  refine list_ext_getD 0 (by rw [r3, hL]; simp) fun j hj => ?_
  rw [r3] at hj; simp at hj
  rw [r5 j (by omega) hj (by simp)]
  unfold lvP baseK
  split
  ·simp only; omega
  ·simp
 subst hM
 unfold restF
 rw [r1]
 simp only
 by_cases k2 : k = 2
 ·rw [if_pos k2]
  have : Q = List.replicate 16 0 := by rcases h.2.2 with h2 | ⟨h2, _⟩ | ⟨_, h2⟩ <;> first | (simp only at h2; omega) | exact h2
  rw [this, k2]
 ·rw [if_neg k2] at r2 ⊢
  have hlv : lv M := h.2.1.1
  rw [if_neg (by simpa using hlv)]
  rw [qZ_flat, range_0] at r2
  obtain ⟨e2, Q2, s1, s2, s3⟩ := q_back h.2.1 16 0 rfl e (List.replicate 16 0) rfl (by simp) (fun j hj => absurd hj (Nat.not_lt_zero j)) (fun j _ => rep0 16 j) r2
  have : Q2 = Q := list_ext_getD 0 (by rw [s2, hQ]) fun j hj => s3 j (by omega)
  rw [s1, this]
theorem kinds_worth {k : Int} (h : k = 0 ∨ k = 1 ∨ k = 2) : worthS k kindsC 4 := by
 have ht : totS kindsC = 16 := (cum_tot kindW_ok).trans (by decide)
 unfold worthS
 rw [ht]
 rcases h with rfl | rfl | rfl <;> decide
theorem gap_one {w : List Int} (h : counts w) {s : Int} (h0 : 0 ≤ s) (h1 : s + 1 ≤ w.length) : 1 ≤ (cum w).getD (s.toNat + 1) 0 - (cum w).getD s.toNat 0 := by
 rw [cum_get (by omega), cum_get (by omega)]
 have := h.pos s.toNat (by omega)
 simp only [pre]; omega
theorem worth_of {w : List Int} (h : counts w) {s : Int} (h0 : 0 ≤ s) (h1 : s + 1 ≤ w.length) {n : Nat} (hn : n ≤ 14) (ht : pre w w.length ≤ 2 ^ n) : worthS s (cum w) n := by
 refine ⟨?_, hn⟩
 rw [cum_tot h]
 have g := gap_one h h0 h1
 have p : (0 : Int) ≤ 2 ^ n := Int.le_of_lt (Int.pow_pos (by decide))
 have := Int.mul_le_mul_of_nonneg_right g p
 omega
theorem lv_worth {k : Int} {L p : List Int} (hl : lv L) (hn : k = 1 → nearP L p) {b : Nat} (hb : b < 6) : worthS (lvP k L p b).1 (lvP k L p b).2 8 := by
 have h := hl b hb
 unfold lvP
 split
 ·rename_i k1
  have := (hn k1).2.2 b hb
  exact worth_of chgW_ok (by simp only; omega) (by simp only [show chgW.length = 16 by decide]; omega) (by decide) (by decide)
 ·have := worth_of onesW_ok (s := L.getD b 0) h.1 (by rw [onesW_len]; omega) (n := 8) (by decide) (by rw [onesW_len, ones_pre _ (by omega)]; decide)
  rw [cum_ones] at this
  exact this
theorem most_pow {w : Int} (h : 0 ≤ w) (h7 : w ≤ 7) : (mostS w + 1) * (mostS w + 1) ≤ 2 ^ (2 * w.toNat) := by
 rcases w_cases h h7 with rfl | rfl | rfl | rfl | rfl | rfl | rfl | rfl <;> decide
theorem q_worth {L Q : List Int} (hL : L.length = 6) (hm : mayP Q L) {n : Nat} (hn : n < 16) (hz : wideF L n ≠ 0) : worthS (Q.getD n 0 + mostF L n) (smallsC (mostF L n)) (2 * (wideF L n).toNat) := by
 have h1 := hm.2 n hn
 have h2 := mostF_range hL hm.1 n
 have hw := wideF_range hL hm.1 n
 have em : mostF L n = mostS (wideF L n) := by unfold mostF; rw [if_neg hz]
 refine worth_of (smallW_ok h2.1 h2.2) (by omega) (by rw [smallW_len]; omega) (by omega) ?_
 rw [small_tot h2.1, em]
 exact most_pow hw.1 hw.2
theorem head_worth {f : FrT} {p : List Int} (h : okFr f p) : ∀ i, i ≤ 6 → ∃ ns, worthL (headZ f.1 f.2.1 p i) ns ∧ sumN ns ≤ 4 + 8 * i
 | 0, _ => ⟨[4], ⟨kinds_worth (okFr_k h), trivial⟩, by simp [sumN]⟩
 | i + 1, hi => by
  obtain ⟨ns, h1, h2⟩ := head_worth h i (by omega)
  refine ⟨ns ++ [8], ?_, by rw [sumN_snoc]; omega⟩
  rw [← headZ_succ]
  have := lv_worth (p := p) (k := f.1) (okFr_lv h) (fun k1 => by rcases h.2.2 with h3 | ⟨_, h3⟩ | ⟨h3, _⟩ <;> first | omega | exact h3) (show i < 6 by omega)
  exact worthL_snoc h1 this
noncomputable def sumW (L : List Int) : Nat → Nat
 | 0 => 0
 | n + 1 => sumW L n + (wideF L n).toNat
theorem sum_worth {L Q : List Int} (hL : L.length = 6) (hm : mayP Q L) {hs : List Sym} {ns : List Nat} (h1 : worthL hs ns) : ∀ n, n ≤ 16 → ∃ ms, worthL (hs ++ qZ L Q n) ms ∧ sumN ms ≤ sumN ns + 2 * sumW L n
 | 0, _ => ⟨ns, by rw [show qZ L Q 0 = [] from rfl, List.append_nil]; exact h1, by simp [sumW]⟩
 | n + 1, hn => by
  obtain ⟨ms, h2, h3⟩ := sum_worth hL hm h1 n (by omega)
  by_cases hz : wideF L n = 0
  ·refine ⟨ms, ?_, by simp only [sumW]; omega⟩
   simp only [qZ]; rw [if_pos hz]; exact h2
  ·refine ⟨ms ++ [2 * (wideF L n).toNat], ?_, by rw [sumN_snoc]; simp only [sumW]; omega⟩
   simp only [qZ]; rw [if_neg hz, ← List.append_assoc]
   exact worthL_snoc h2 (q_worth hL hm (by omega) hz)
theorem sumW_cost {L : List Int} (hL : L.length = 6) (hl : lv L) : sumW L 16 ≤ 120 := by
 obtain ⟨_, _, s3, s4⟩ := shareF_ok hL hl
 have h0 := s3.2 0 (by omega); have h1 := s3.2 1 (by omega); have h2 := s3.2 2 (by omega); have h3 := s3.2 3 (by omega); have h4 := s3.2 4 (by omega); have h5 := s3.2 5 (by omega)
 have e : ∀ n b, bandOf n = b → wideF L n = (shareF L).getD b 0 := fun n b h => by unfold wideF; rw [h]
 simp only [sumW, e 0 0 rfl, e 1 1 rfl, e 2 2 rfl, e 3 2 rfl, e 4 3 rfl, e 5 3 rfl, e 6 4 rfl, e 7 4 rfl, e 8 4 rfl, e 9 4 rfl, e 10 5 rfl, e 11 5 rfl, e 12 5 rfl, e 13 5 rfl, e 14 5 rfl, e 15 5 rfl]
 simp only [costP, edgeL, List.getD_cons_zero, List.getD_cons_succ] at s4
 omega
theorem write_len37 {f : FrT} {p : List Int} (hf : sized f) (h : okFr f p) : 1 ≤ (writeF f p).length ∧ (writeF f p).length ≤ 37 := by
 obtain ⟨N, d, _, _, w1, w2, w3, _⟩ := write_all hf h
 refine ⟨w1, ?_⟩
 obtain ⟨ns, n1, n2⟩ := head_worth h 6 (Nat.le_refl _)
 have : ∃ ms, worthL (symZ f p) ms ∧ sumN ms ≤ 292 := by
  unfold symZ
  split
  ·exact ⟨ns, by rw [List.append_nil]; exact n1, by omega⟩
  ·obtain ⟨ms, m1, m2⟩ := sum_worth hf.1 h.2.1 n1 16 (Nat.le_refl _)
   have := sumW_cost hf.1 h.2.1.1
   exact ⟨ms, m1, by omega⟩
 obtain ⟨ms, m1, m2⟩ := this
 have := w3 ms m1
 omega
theorem guess_back {f : FrT} {p : List Int} (hf : sized f) (h : okFr f p) : guessF (writeF f p) p = some f := by
 obtain ⟨N, d, _, _, _, _, _, w4, w5⟩ := write_all hf h
 have hl := write_len37 hf h
 unfold symZ headZ at w5
 rw [List.cons_append] at w5
 obtain ⟨c1, c2⟩ := w5
 unfold guessF
 rw [if_neg (by omega), w4, if_neg (by simp)]
 simp only at c1 c2 ⊢
 rw [c1, if_neg (by simp)]
 simp only
 exact rest_back hf h c2
theorem read_back {f : FrT} {p : List Int} (hf : sized f) (h : okFr f p) : readF (writeF f p) p = (f, 0) := by
 unfold readF
 rw [if_neg (by simpa using h.1), guess_back hf h]
 simp only
 rw [if_pos ⟨h, rfl⟩]
theorem read_zero {b p : List Int} {f : FrT} (h : readF b p = (f, 0)) : okFr f p ∧ writeF f p = b ∧ guessF b p = some f := by
 unfold readF at h
 split at h
 ·exact absurd (congrArg (·.2) h) (show (1 : Int) ≠ 0 by decide)
 ·split at h
  ·exact absurd (congrArg (·.2) h) (show (21 : Int) ≠ 0 by decide)
  ·rename_i g hg
   split at h
   ·rename_i hh
    have : g = f := congrArg (·.1) h
    subst this
    exact ⟨hh.1, hh.2, hg⟩
   ·exact absurd (congrArg (·.2) h) (show (21 : Int) ≠ 0 by decide)
theorem write_bytes {f : FrT} {p : List Int} (hf : sized f) (h : okFr f p) : bytes (writeF f p) ∧ small (writeF f p) := by
 obtain ⟨N, d, _, w0, _, w2, _⟩ := write_all hf h
 exact ⟨w0, by unfold small; omega⟩
noncomputable def kindF (b : List Int) : Int × Int :=
 if b.length = 0 ∨ b.length > 40 then (0, 21) else if (NextF (StartF (b, 8 * (b.length : Int))).1 kindsC).2.2 = 0 then ((NextF (StartF (b, 8 * (b.length : Int))).1 kindsC).2.1, 0) else (0, 21)
theorem frame_Kind_eq {b : List Int} (hb : bytes b) (hs : small b) : g_frame_Kind b = some (kindF b) := by
 unfold small at hs
 unfold kindF
 by_cases h0 : b.length = 0
 ·rw [if_pos (.inl h0)]
  simp (disch := omega) only [g_frame_Kind, eT, Option.bind_some, cond_true]
 ·by_cases h40 : b.length > 40
  ·rw [if_pos (.inr h40)]
   simp (disch := omega) only [g_frame_Kind, eF, dT, frame_kinds_eq, Option.bind_some, beq_false_of_ne (show (21 : Int) ≠ 0 by decide), Bool.not_false, cond_true, cond_false]
  ·rw [if_neg (by omega)]
   obtain ⟨d, h1, h2⟩ := start_bytes hb (show b.length ≤ 1000 by omega)
   have st := (StartF_same (B := b) (N := 8 * (b.length : Int)) hb (by unfold small; omega)).1
   rw [h1] at st ⊢
   have nk := (next_fact h2 kinds_ok).1
   simp only
   by_cases he : (NextF d kindsC).2.2 = 0
   ·rw [if_pos he]
    simp (disch := omega) only [g_frame_Kind, eF, dF, bits_Of_eq (show b.length ≤ 1000 by omega), st, frame_kinds_eq, Option.bind_some, beq_self_eq_true, cond_true, etaD, nk, he, Bool.not_true, cond_false]
   ·rw [if_neg he]
    have hz : ((NextF d kindsC).2.2 == 0) = false := beq_false_of_ne he
    simp (disch := omega) only [g_frame_Kind, eF, dF, bits_Of_eq (show b.length ≤ 1000 by omega), st, frame_kinds_eq, Option.bind_some, beq_self_eq_true, cond_true, etaD, nk, hz, Bool.not_false]
theorem kind_back {f : FrT} {p : List Int} (hf : sized f) (h : okFr f p) : kindF (writeF f p) = (f.1, 0) := by
 obtain ⟨N, d, _, _, _, _, _, w4, w5⟩ := write_all hf h
 have hl := write_len37 hf h
 unfold symZ headZ at w5
 rw [List.cons_append] at w5
 obtain ⟨c1, c2⟩ := w5
 unfold kindF
 rw [if_neg (by omega), w4]
 simp only at c1 ⊢
 rw [c1]; rfl
theorem z6_lv : lv (List.replicate 6 0) := by decide
theorem zFr_ok : okFr zFr (List.replicate 6 0) := by
 refine ⟨z6_lv, ⟨z6_lv, fun n hn => ?_⟩, .inl rfl⟩
 have := mostF_range (l := List.replicate 6 0) (by simp) z6_lv n
 show -mostF (List.replicate 6 0) n ≤ (List.replicate 16 (0 : Int)).getD n 0 ∧ (List.replicate 16 (0 : Int)).getD n 0 ≤ mostF (List.replicate 6 0) n
 rw [rep0]; omega
end Go.Sq
namespace Go.Sq
open Go.Rx
end Go.Sq
namespace Go.Sq
open Go.Rx
end Go.Sq
