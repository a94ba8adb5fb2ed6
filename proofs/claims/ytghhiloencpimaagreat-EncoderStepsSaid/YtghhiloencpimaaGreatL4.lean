import Derived.Test.YtghhiloencpimaaGreatL3
import Derived.Test.YtghhiloencpimaaGreatL2
import Derived.ProofKit
set_option linter.unusedSimpArgs false
set_option linter.unusedVariables false
set_option linter.unusedSectionVars false
namespace Go.Sq
open Go.Rx
def chain : e3A → List (Int × List Int) → Prop
 | _, [] => True
 | d, z :: r => (c7A d z.2).2 = (z.1, 0) ∧ chain (c7A d z.2).1 r
theorem u9E : ∀ (zs : List (Int × List Int)) (d : e3A) (acc : List Int), j8B (zs.map (·.2)) d acc = (acc ++ zs.map (·.1), 0) → chain d zs
 | [], _, _, _ => trivial
 | (s, C) :: zs, d, acc, h => by
  simp only [List.map_cons, j8B] at h
  by_cases h0 : (c7A d C).2.2 = 0
  ·rw [if_neg (by simp [h0])] at h
   have hpre : ∀ (F : List (List Int)) (d : e3A) (a : List Int) (r : List Int), j8B F d a = (r, 0) → ∃ t, r = a ++ t := by
    intro F
    induction F with
    | nil => intro d a r h; simp only [j8B] at h; exact ⟨[], by rw [List.append_nil]; exact (congrArg (·.1) h).symm⟩
    | cons C F ih =>
     intro d a r h
     simp only [j8B] at h
     split at h
     ·rename_i hne; exact absurd (congrArg (·.2) h) hne
     ·obtain ⟨t, rfl⟩ := ih _ _ _ h
      exact ⟨(c7A d C).2.1 :: t, by simp⟩
   obtain ⟨t, ht⟩ := hpre _ _ _ _ h
   have hs : (c7A d C).2.1 = s := by
    have := congrArg (fun m => m.drop acc.length) ht
    simp only [List.append_assoc, List.drop_left, List.singleton_append] at this
    exact (List.cons.inj this).1.symm
   refine ⟨?_, u9E zs _ (acc ++ [s]) ?_⟩
   ·exact Prod.ext hs h0
   ·rw [hs] at h
    rw [h]; simp
  ·rw [if_pos h0] at h
   exact absurd (congrArg (·.2) h) h0
theorem g8G : ∀ {n : Nat} {lo hi : Int} {w : Nat} {l : List Bool}, l1A n lo hi → l.length + w + n ≤ 65535 → ∃ lo' hi' w' l', j3A (n + 1) lo hi w l = some (lo', hi', w', l') ∧ l'.length + w' ≤ l.length + w + n := by
 intro n
 induction n with
 | zero =>
  intro lo hi w l hr hl
  obtain ⟨rfl, rfl⟩ := t3A hr
  exact ⟨0, 4294967295, w, l, rfl, by omega⟩
 | succ n ih =>
  intro lo hi w l hr hl
  obtain ⟨h1, h2, h3, h4⟩ := hr
  have hol := fun b => o0A l b w
  unfold j3A
  by_cases c1 : hi < 2147483648
  ·rw [if_pos c1, if_neg (by omega)]
   obtain ⟨a, b, c, d, e, f⟩ := ih (lo := 2 * lo) (hi := 2 * hi + 1) (w := 0) (l := g0A l false w) (n7A ⟨h1, h2, h3, h4⟩ (by omega) (by omega) (by omega)) (by rw [hol]; omega)
   exact ⟨a, b, c, d, e, by rw [hol] at f; omega⟩
  ·rw [if_neg c1]
   by_cases c2 : lo ≥ 2147483648
   ·rw [if_pos c2, if_neg (by omega)]
    obtain ⟨a, b, c, d, e, f⟩ := ih (lo := 2 * (lo - 2147483648)) (hi := 2 * (hi - 2147483648) + 1) (w := 0) (l := g0A l true w) (n7A ⟨h1, h2, h3, h4⟩ (by omega) (by omega) (by omega)) (by rw [hol]; omega)
    exact ⟨a, b, c, d, e, by rw [hol] at f; omega⟩
   ·rw [if_neg c2]
    by_cases c3 : lo ≥ 1073741824 ∧ hi < 3221225472
    ·rw [if_pos c3]
     obtain ⟨a, b, c, d, e, f⟩ := ih (lo := 2 * (lo - 1073741824)) (hi := 2 * (hi - 1073741824) + 1) (w := w + 1) (l := l) (n7A ⟨h1, h2, h3, h4⟩ (by omega) (by omega) (by omega)) (by omega)
     exact ⟨a, b, c, d, e, by omega⟩
    ·rw [if_neg c3]
     exact ⟨lo, hi, w, l, rfl, by omega⟩
theorem s6C {C : List Int} (h : okF C) : b3A C := by have := h.2.1; unfold b3A; omega
theorem g9G {lo hi : Int} {w : Nat} {l : List Bool} (h : j9B lo hi w l) {C : List Int} {s : Int} (hs : r0A C s) (hl : l.length + w ≤ 60000) :
  ∃ (lo' hi' : Int) (w' : Nat) (l' : List Bool), k0A (g1A lo hi w l) C s = (g1A lo' hi' w' l', 0) ∧ l'.length + w' ≤ l.length + w + 32 := by
 have hgl := h.good
 unfold d5A at hgl
 have hp := q4E h.lo0 h.hi1 h.good h.wait h.len hs
 have ht := r9A hs.1
 have hsp := c4C hs.1 hs.2.1 hs.2.2
 have h1 := h.lo0
 have h2 := h.hi1
 have nf := n7B (r := hi - lo + 1) (a := C.getD s.toNat 0) (b := C.getD (s.toNat + 1) 0) (t := c2A C) (by omega) (by omega) hsp.1 hsp.2.1 hsp.2.2 ht.2.1 ht.2.2
 have hr : l1A 32 (i4A lo hi (C.getD s.toNat 0) (c2A C)) (i5A lo hi (C.getD (s.toNat + 1) 0) (c2A C)) := n6B (by unfold i4A; omega) (by unfold i4A i5A; omega) (by unfold i5A; omega)
 obtain ⟨a, b, c, d, e, f⟩ := g8G (w := w) (l := l) hr (by omega)
 obtain ⟨o1, o2, o3, _⟩ := d3D hr e
 unfold d5A at o1
 refine ⟨a, b, c, d, ?_, f⟩
 unfold g1A
 rw [hp]
 exact q5E rfl e (by omega) (by omega) (by omega)
theorem v0E : ∀ (zs : List (Int × List Int)) {lo hi : Int} {w : Nat} {l : List Bool}, j9B lo hi w l → (∀ z ∈ zs, r0A z.2 z.1) → l.length + w + 32 * zs.length ≤ 60000 →
  ∃ (lo' hi' : Int) (w' : Nat) (l' : List Bool), i6A zs (g1A lo hi w l) = (g1A lo' hi' w' l', 0) ∧ l'.length + w' ≤ l.length + w + 32 * zs.length
 | [], lo, hi, w, l, _, _, _ => ⟨lo, hi, w, l, rfl, by simp⟩
 | (s, C) :: zs, lo, hi, w, l, h, hz, hl => by
  simp only [List.length_cons] at hl
  have hs := hz (s, C) List.mem_cons_self
  obtain ⟨a, b, c, d, e, f⟩ := g9G h hs (by omega)
  have hs63 : s < 2 ^ 63 := by have := hs.2.2; have := hs.1.2.1; omega
  obtain ⟨_, a', b', c', d', _, g, e'⟩ := s9D h (s6C hs.1) hs63 (by rw [e])
  rw [e] at e'
  have q := congrArg (·.1) e'
  have q1 : a = a' := congrArg (·.1) q
  have q2 : b = b' := congrArg (·.2.1) q
  have q3 : (c : Int) = (c' : Int) := congrArg (·.2.2.1) q
  have q4 : pk d = pk d' := congrArg (·.2.2.2.1) q
  have q5 : ((d.length : Nat) : Int) = ((d'.length : Nat) : Int) := congrArg (·.2.2.2.2) q
  have hc : c' = c := by omega
  have hee : g1A a b c d = g1A a' b' c' d' := q
  obtain ⟨a2, b2, c2, d2, e2, f2⟩ := v0E zs g (fun z h => hz z (List.mem_cons_of_mem _ h)) (by omega)
  refine ⟨a2, b2, c2, d2, ?_, by simp only [List.length_cons]; omega⟩
  simp only [i6A]
  rw [e]
  rw [if_neg (by simp)]
  show i6A zs (g1A a b c d) = _
  rw [hee]; exact e2
theorem h0G {zs : List (Int × List Int)} (hz : ∀ z ∈ zs, r0A z.2 z.1) (hn : zs.length ≤ 100) :
  ∃ L : List Bool, z4A (zs.map (·.1)) (zs.map (·.2)) = ((pk L, (L.length : Int)), 0) ∧ 2 ≤ L.length ∧ L.length ≤ 4000 ∧ (∀ ns, b3B zs ns → L.length ≤ o2A ns + 2) ∧
   ∀ T : List Bool, L.length + T.length ≤ 65536 → q3A (pk (L ++ T), ((L ++ T).length : Int)) = (u1B (L ++ T) 0 4294967295 0 [], 0) ∧ chain (u1B (L ++ T) 0 4294967295 0 []) zs := by
 have hmap : (zs.map (·.1)).zip (zs.map (·.2)) = zs := by
  clear hz hn
  induction zs with
  | nil => rfl
  | cons z zs ih => simp only [List.map_cons, List.zip_cons_cons, ih]
 have hmem : ∀ z ∈ zs, b3A z.2 ∧ z.1 < 2 ^ 63 := fun z h => ⟨s6C (hz z h).1, by have := (hz z h).2.2; have := (hz z h).1.2.1; omega⟩
 have hb : h1A = g1A 0 4294967295 0 [] := rfl
 obtain ⟨lo', hi', w', l', e, f⟩ := v0E zs t0D hz (by simp; omega)
 have hp : (i6A zs (g1A 0 4294967295 0 [])).2 = 0 := by rw [e]
 obtain ⟨lo2, hi2, w2, l2, e1, e2, e3, e4⟩ := r1E zs t0D hmem hp
 have q1 : (g1A lo' hi' w' l', (0 : Int)) = (g1A lo2 hi2 w2 l2, 0) := by rw [← e, ← e1]
 have q7 : (w' : Int) = (w2 : Int) := congrArg (fun z => z.1.2.2.1) q1
 have q8 : ((l'.length : Nat) : Int) = ((l2.length : Nat) : Int) := congrArg (fun z => z.1.2.2.2.2) q1
 simp only [List.length_nil] at f
 have hol := o0A l2 (decide (1073741824 ≤ lo2)) (w2 + 1)
 have hE := c4G e2.lo0 e2.hi1 e2.good e2.wait e2.len
 have hall : z4A (zs.map (·.1)) (zs.map (·.2)) = ((pk (g0A l2 (decide (1073741824 ≤ lo2)) (w2 + 1)), ((g0A l2 (decide (1073741824 ≤ lo2)) (w2 + 1)).length : Int)), 0) := by
  unfold z4A
  rw [if_neg (by simp), hmap, hb, e1, if_neg (by simp)]
  show o0B (g1A lo2 hi2 w2 l2) = _
  unfold g1A
  rw [hE]
  unfold z3A
  rw [if_neg (by omega), hol]
 refine ⟨_, hall, by rw [hol]; omega, by rw [hol]; omega, fun ns hns => ?_, fun T hT => ?_⟩
 ·obtain ⟨lo3, hi3, w3, l3, k, r1, r2, r3, r4⟩ := r2E zs ns t0D hmem hp hns
  have q1 : (g1A lo2 hi2 w2 l2, (0 : Int)) = (g1A lo3 hi3 w3 l3, 0) := by rw [← e1, ← r1]
  have q7 : (w2 : Int) = (w3 : Int) := congrArg (fun z => z.1.2.2.1) q1
  have q8 : ((l2.length : Nat) : Int) = ((l3.length : Nat) : Int) := congrArg (fun z => z.1.2.2.2.2) q1
  have q2a := r2.lo0
  have q2b := r2.hi1
  have hk := e4G (R := hi3 - lo3 + 1) (by omega) hn (by
   have : (4294967295 - 0 + 1 : Int) = 4294967296 := by decide
   rw [this] at r4; exact r4)
  simp only [List.length_nil] at r3
  rw [hol]; omega
 ·have hBl : (g0A l2 (decide (1073741824 ≤ lo2)) (w2 + 1) ++ T).length = l2.length + (w2 + 1) + 1 + T.length := by rw [List.length_append, hol]
  rw [hol] at hT
  obtain ⟨_, g2⟩ := e4 (g0A l2 (decide (1073741824 ≤ lo2)) (w2 + 1) ++ T) (by omega) (by omega) (e2G e2.lo0 e2.hi1 e2.good)
  generalize g0A l2 (decide (1073741824 ≤ lo2)) (w2 + 1) ++ T = B at *
  have hBB : B.length ≤ 65536 := by omega
  refine ⟨?_, u9E _ _ [] (g2 [])⟩
  unfold q3A
  rw [s3D hBB]
  unfold u1B r1A base
  simp [e4A]
theorem h1G (L : List Bool) (k j : Nat) : byt (L ++ List.replicate k false) j = byt L j := by
 unfold byt
 congr 1
 funext i
 simp only [List.getD_eq_getElem?_getD]
 by_cases h : 8 * j + (7 - i) < L.length
 ·rw [List.getElem?_append_left h]
 ·rw [List.getElem?_append_right (by omega), List.getElem?_replicate, List.getElem?_eq_none (by omega)]
  split <;> rfl
theorem h2G {L : List Bool} : pk (L ++ List.replicate (8 * (pk L).length - L.length) false) = pk L ∧ ((L ++ List.replicate (8 * (pk L).length - L.length) false).length : Int) = 8 * ((pk L).length : Int) := by
 have hp := m8A L
 have hl : (L ++ List.replicate (8 * (pk L).length - L.length) false).length = 8 * (pk L).length := by
  rw [List.length_append, List.length_replicate]; omega
 refine ⟨?_, by rw [hl]; omega⟩
 refine (c8D (L := pk L) (by rw [hl]; omega) fun k hk => ?_).symm
 rw [n4B, h1G]
theorem h3G {zs : List (Int × List Int)} (hz : ∀ z ∈ zs, r0A z.2 z.1) (hn : zs.length ≤ 100) :
  ∃ (B : List Int) (N : Int) (d : e3A), z4A (zs.map (·.1)) (zs.map (·.2)) = ((B, N), 0) ∧ bytes B ∧ 1 ≤ B.length ∧ B.length ≤ 600 ∧ (∀ ns, b3B zs ns → 8 * B.length ≤ o2A ns + 9) ∧ q3A (B, 8 * (B.length : Int)) = (d, 0) ∧ chain d zs := by
 obtain ⟨L, h1, h2, h3, h4, h5⟩ := h0G hz hn
 have hp := m8A L
 obtain ⟨p1, p2⟩ := h2G (L := L)
 obtain ⟨h6, h7⟩ := h5 (List.replicate (8 * (pk L).length - L.length) false) (by rw [List.length_replicate]; omega)
 rw [p1, p2] at h6
 refine ⟨pk L, _, _, h1, m9A L, by omega, by omega, fun ns hns => ?_, h6, h7⟩
 have := h4 ns hns; omega
end Go.Sq
namespace Go.Sq
open Go.Rx
abbrev Sym := Int × List Int
def lvP (k : Int) (L p : List Int) (b : Nat) : Sym := if k = 1 then (L.getD b 0 - p.getD b 0 + 8, w6A) else (L.getD b 0, o1A)
noncomputable def qZ (L Q : List Int) : Nat → List Sym
 | 0 => []
 | n + 1 => if h5A L n = 0 then qZ L Q n else qZ L Q n ++ [(Q.getD n 0 + b2A L n, j5A (b2A L n))]
def c8A (k : Int) (L p : List Int) (n : Nat) : List Sym := (k, q6A) :: a5A (lvP k L p) n
noncomputable def f7A (f : FrT) (p : List Int) : List Sym := c8A f.1 f.2.1 p 6 ++ if f.1 = 2 then [] else qZ f.2.1 f.2.2 16
def h6A (zs : List Sym) : List Int := zs.map (·.1)
def h7A (zs : List Sym) : List (List Int) := zs.map (·.2)
theorem f2D (zs : List Sym) (z : Sym) : h6A zs ++ [z.1] = h6A (zs ++ [z]) := by simp [h6A]
theorem f3D (zs : List Sym) (z : Sym) : h7A zs ++ [z.2] = h7A (zs ++ [z]) := by simp [h7A]
theorem o6B (zs : List Sym) : (h6A zs).length = zs.length := by simp [h6A]
theorem o7B (zs : List Sym) : (h7A zs).length = zs.length := by simp [h7A]
theorem v6D (k : Int) (L p : List Int) (n : Nat) : c8A k L p n ++ [lvP k L p n] = c8A k L p (n + 1) := by
 unfold c8A; rw [List.cons_append, e4D]
theorem z7A (k : Int) (L p : List Int) (n : Nat) : (c8A k L p n).length = n + 1 := by simp [c8A, g6A]
theorem f4D (L Q : List Int) : ∀ n, (qZ L Q n).length ≤ n
 | 0 => by simp [qZ]
 | n + 1 => by
  have := f4D L Q n
  simp only [qZ]; split
  ·omega
  ·rw [List.length_append, List.length_singleton]; omega
theorem h4G (l : List Int) (i : Nat) : l.set i (l.getD i 0) = l := by
 refine p3A 0 (by rw [List.length_set]) fun j hj => ?_
 rw [List.length_set] at hj
 by_cases hi : i < l.length
 ·rw [p2A _ _ _ _ _ hi]; split
  ·rename_i h; rw [h]
  ·rfl
 ·rw [List.set_eq_of_length_le (by omega)]
theorem v1E {l : List Int} {i : Nat} {x : Int} (h : x = l.getD i 0) : l.set i x = l := by rw [h, h4G]
theorem v2E {f : FrT} {p : List Int} (h : e2A f p) : lv f.2.1 := h.2.1.1
theorem v3E {f : FrT} {p : List Int} (hf : l8A f) (h : e2A f p) {n : Nat} (hn : n < 16) : -127 ≤ f.2.2.getD n 0 ∧ f.2.2.getD n 0 ≤ 127 := by
 have := h.2.1.2 n hn
 have := p5A hf.1 h.2.1.1 n
 omega
theorem h5G {p : List Int} {f : FrT} {t l : List Int} {T : List (List Int)} (hp : p.length = 6) (h : lv p) : a1A o0C (p, 0, f, t, p, l, T, ()) = some (p, f, t, a5A (fun b => p.getD b 0 - 8) 6, l, T, ()) := by
 rw [← l4A hp]
 exact b7A (f := o0C) (fun i => (p, (i : Int), f, t, b4A (fun b => p.getD b 0 - 8) i p, l, T, ())) 6 (fun i hi => by
  have e : (b4A (fun b => p.getD b 0 - 8) i p).getD i 0 = p.getD i 0 := by rw [u2A _ _ _ _ _ (by omega), if_neg (by omega)]
  have := h i hi
  simp (disch := omega) only [o0C, dT, wT, Int.toNat_natCast, e, d2A, k3A]
  rw [a3A (by omega) (by omega)]) (by simp (disch := omega) only [o0C, dF])
theorem v4E {k : Int} {L Q p t base : List Int} (hL : L.length = 6) (hl : lv L) (hb : ∀ i, i < 6 → -8 ≤ base.getD i 0 ∧ base.getD i 0 ≤ 255) (hz : ∀ i, i < 6 → lvP k L p i = (L.getD i 0 - base.getD i 0, t)) :
  a1A o1C (p, 0, (k, (L, Q)), t, base, h6A (c8A k L p 0), h7A (c8A k L p 0), ()) = some (p, (k, (L, Q)), h6A (c8A k L p 6), h7A (c8A k L p 6), ()) :=
 b7A (f := o1C) (fun i => (p, (i : Int), (k, (L, Q)), t, base, h6A (c8A k L p i), h7A (c8A k L p i), ())) 6 (fun i hi => by
  have h1 := hl i hi
  have h2 := hb i hi
  have e1 := f2D (c8A k L p i) (lvP k L p i)
  have e2 := f3D (c8A k L p i) (lvP k L p i)
  rw [hz i hi] at e1 e2
  simp only at e1 e2
  rw [← hz i hi, v6D] at e1 e2
  have e3 : (h6A (c8A k L p (i + 1))).length = i + 2 := by rw [o6B, z7A]
  have e4 : (h7A (c8A k L p (i + 1))).length = i + 2 := by rw [o7B, z7A]
  have e5 : L.set i (L.getD i 0 - base.getD i 0 + base.getD i 0) = L := v1E (by omega)
  simp (disch := omega) only [o1C, dT, wT, Int.toNat_natCast, a3A, e1, e2, e3, e4, rT, e5]
  rfl) (by simp (disch := omega) only [o1C, dF])
theorem h6G {k : Int} {L Q p : List Int} (hL : L.length = 6) (hl : lv L) (hQ : ∀ n, n < 16 → -127 ≤ Q.getD n 0 ∧ Q.getD n 0 ≤ 127) :
  a1A a1C (p, 0, (k, (L, Q)), g2A L, h6A (c8A k L p 6), h7A (c8A k L p 6), ()) = some (p, (k, (L, Q)), h6A (c8A k L p 6 ++ qZ L Q 16), h7A (c8A k L p 6 ++ qZ L Q 16), ()) := by
 have := b7A (f := a1C) (fun i => (p, (i : Int), (k, (L, Q)), g2A L, h6A (c8A k L p 6 ++ qZ L Q i), h7A (c8A k L p 6 ++ qZ L Q i), ())) 16 (r := (p, (k, (L, Q)), h6A (c8A k L p 6 ++ qZ L Q 16), h7A (c8A k L p 6 ++ qZ L Q 16), ())) (fun i hi => by
  have hb := z5A i
  have hq := hQ i hi
  have hw := c9C hL hl i
  have hm := p5A hL hl i
  have ew : (g2A L).getD (d9A i) 0 = h5A L i := rfl
  by_cases hz : h5A L i = 0
  ·simp (disch := omega) only [a1C, dT, u6B hi, Option.bind_some, wT, Int.toNat_natCast, ew, hz, eT, d2A, qZ, if_pos]
   rfl
  ·have e1 := f2D (c8A k L p 6 ++ qZ L Q i) (Q.getD i 0 + b2A L i, j5A (b2A L i))
   have e2 := f3D (c8A k L p 6 ++ qZ L Q i) (Q.getD i 0 + b2A L i, j5A (b2A L i))
   simp only [List.append_assoc] at e1 e2
   have e0 : qZ L Q (i + 1) = qZ L Q i ++ [(Q.getD i 0 + b2A L i, j5A (b2A L i))] := by simp only [qZ]; rw [if_neg hz]
   rw [← e0] at e1 e2
   have ql := f4D L Q (i + 1)
   have e3 : (h6A (c8A k L p 6 ++ qZ L Q (i + 1))).length ≤ 30 := by rw [o6B, List.length_append, z7A]; omega
   have e4 : (h7A (c8A k L p 6 ++ qZ L Q (i + 1))).length ≤ 30 := by rw [o7B, List.length_append, z7A]; omega
   have e5 : Q.set i (Q.getD i 0 + b2A L i - b2A L i) = Q := v1E (by omega)
   have em : i1A (h5A L i) = b2A L i := by unfold b2A; rw [if_neg hz]
   simp (disch := omega) only [a1C, dT, u6B hi, Option.bind_some, wT, Int.toNat_natCast, ew, eF, s0C hw.1 hw.2, em, v4D hm.1 hm.2, a3A, e1, e2, rT, e5]
   rfl) (by simp (disch := omega) only [a1C, dF])
 rw [← this]
 simp only [qZ, List.append_nil]; rfl
theorem v5E (i : Nat) : (List.replicate 6 (0 : Int)).getD i 0 = 0 := n3A 6 i
theorem v6E {f : FrT} {p : List Int} (h : e2A f p) : f.1 = 0 ∨ f.1 = 1 ∨ f.1 = 2 := by rcases h.2.2 with h | ⟨h, _⟩ | ⟨h, _⟩ <;> omega
theorem h7G {f : FrT} {p : List Int} (hf : l8A f) (hp : p.length = 6) (h : e2A f p) : y4B f p = some (h6A (f7A f p), h7A (f7A f p)) := by
 obtain ⟨k, L, Q⟩ := f
 have hl : lv L := h.2.1.1
 have hlp : lv p := h.1
 have hQ : ∀ n, n < 16 → -127 ≤ Q.getD n 0 ∧ Q.getD n 0 ≤ 127 := fun n hn => v3E hf h hn
 have hsh := (c8C hf.1 hl).1
 have e0 : ([k] : List Int) = h6A (c8A k L p 0) := rfl
 have e00 : ([q6A] : List (List Int)) = h7A (c8A k L p 0) := rfl
 have nums := h6G (k := k) (p := p) hf.1 hl hQ
 simp only at hsh nums
 by_cases k1 : k = 1
 ·have lvs := v4E (k := k) (L := L) (Q := Q) (p := p) (t := w6A) (base := a5A (fun b => p.getD b 0 - 8) 6) hf.1 hl (fun i hi => by rw [e0A _ _ _ _ hi]; have := hlp i hi; omega)
   (fun i hi => by rw [e0A _ _ _ _ hi]; unfold lvP; rw [if_pos k1]; congr 1; omega)
  have es : f7A (k, L, Q) p = c8A k L p 6 ++ qZ L Q 16 := by unfold f7A; rw [if_neg (show ¬ k = 2 by omega)]
  rw [es]
  simp (disch := omega) only [y4B, e9B, Option.bind_some, o6B, o7B, z7A, rT, s4C, eT, u3E, h5G hp hlp, e0, e00, lvs, eF, hsh, nF, nums]
 ·have lvs := v4E (k := k) (L := L) (Q := Q) (p := p) (t := o1A) (base := List.replicate 6 0) hf.1 hl (fun i hi => by rw [v5E]; omega)
   (fun i hi => by rw [v5E]; unfold lvP; rw [if_neg k1]; congr 1; omega)
  by_cases k2 : k = 2
  ·have es : f7A (k, L, Q) p = c8A k L p 6 := by unfold f7A; rw [if_pos k2, List.append_nil]
   rw [es]
   simp (disch := omega) only [y4B, e9B, Option.bind_some, o6B, o7B, z7A, rT, s4C, eF, e0, e00, lvs, eT]
  ·have es : f7A (k, L, Q) p = c8A k L p 6 ++ qZ L Q 16 := by unfold f7A; rw [if_neg k2]
   rw [es]
   simp (disch := omega) only [y4B, e9B, Option.bind_some, o6B, o7B, z7A, rT, s4C, eF, e0, e00, lvs, hsh, nF, nums]
theorem h8G {k : Int} {L Q p : List Int} (hl : lv L) (hlp : lv p) : a1A b6C ([k], [q6A], 0, (k, (L, Q)), p, ()) = some (h6A (c8A k L p 6), h7A (c8A k L p 6), (k, (L, Q)), ()) :=
 b7A (f := b6C) (fun i => (h6A (c8A k L p i), h7A (c8A k L p i), (i : Int), (k, (L, Q)), p, ())) 6 (fun i hi => by
  have h1 := hl i hi
  have h2 := hlp i hi
  have e1 := f2D (c8A k L p i) (lvP k L p i)
  have e2 := f3D (c8A k L p i) (lvP k L p i)
  rw [v6D] at e1 e2
  have e3 : (h6A (c8A k L p (i + 1))).length = i + 2 := by rw [o6B, z7A]
  have e4 : (h7A (c8A k L p (i + 1))).length = i + 2 := by rw [o7B, z7A]
  by_cases k1 : k = 1
  ·have hz : lvP k L p i = (L.getD i 0 - p.getD i 0 + 8, w6A) := by unfold lvP; rw [if_pos k1]
   rw [hz] at e1 e2
   simp (disch := omega) only [b6C, dT, eT, wT, Int.toNat_natCast, a3A, e1, e3, rT, v2D, Option.bind_some, e2, e4]
   rfl
  ·have hz : lvP k L p i = (L.getD i 0, o1A) := by unfold lvP; rw [if_neg k1]
   rw [hz] at e1 e2
   simp (disch := omega) only [b6C, dT, eF, wT, Int.toNat_natCast, a3A, e1, e3, rT, s5C, Option.bind_some, e2, e4]
   rfl) (by simp (disch := omega) only [b6C, dF])
theorem v7E {L : List Int} (hL : L.length = 6) (hl : lv L) {n : Nat} : b2A L n > 0 ↔ h5A L n ≠ 0 := by
 have hw := c9C hL hl n
 have hm := c6C hw.1 hw.2
 unfold b2A; split <;> omega
theorem h9G {k : Int} {L Q p : List Int} (hL : L.length = 6) (hl : lv L) (hQ : ∀ n, n < 16 → -127 ≤ Q.getD n 0 ∧ Q.getD n 0 ≤ 127) :
  a1A b7C (h6A (c8A k L p 6), h7A (c8A k L p 6), a5A (b2A L) 16, 0, (k, (L, Q)), ()) = some (h6A (c8A k L p 6 ++ qZ L Q 16), h7A (c8A k L p 6 ++ qZ L Q 16), ()) := by
 have := b7A (f := b7C) (fun i => (h6A (c8A k L p 6 ++ qZ L Q i), h7A (c8A k L p 6 ++ qZ L Q i), a5A (b2A L) 16, (i : Int), (k, (L, Q)), ())) 16 (r := (h6A (c8A k L p 6 ++ qZ L Q 16), h7A (c8A k L p 6 ++ qZ L Q 16), ())) (fun i hi => by
  have hq := hQ i hi
  have hm := p5A hL hl i
  have hmz := v7E hL hl (n := i)
  have em : (a5A (b2A L) 16).getD i 0 = b2A L i := e0A _ _ _ _ hi
  by_cases hz : h5A L i = 0
  ·have d : decide (b2A L i > 0) = false := decide_eq_false fun h => hmz.1 h hz
   simp (disch := omega) only [b7C, dT, wT, Int.toNat_natCast, em, d, cond_false, Option.bind_some, d2A, qZ, if_pos hz]
  ·have d : decide (b2A L i > 0) = true := decide_eq_true (hmz.2 hz)
   have e1 := f2D (c8A k L p 6 ++ qZ L Q i) (Q.getD i 0 + b2A L i, j5A (b2A L i))
   have e2 := f3D (c8A k L p 6 ++ qZ L Q i) (Q.getD i 0 + b2A L i, j5A (b2A L i))
   simp only [List.append_assoc] at e1 e2
   have e0 : qZ L Q (i + 1) = qZ L Q i ++ [(Q.getD i 0 + b2A L i, j5A (b2A L i))] := by simp only [qZ]; rw [if_neg hz]
   rw [← e0] at e1 e2
   have ql := f4D L Q (i + 1)
   have e3 : (h6A (c8A k L p 6 ++ qZ L Q (i + 1))).length ≤ 30 := by rw [o6B, List.length_append, z7A]; omega
   have e4 : (h7A (c8A k L p 6 ++ qZ L Q (i + 1))).length ≤ 30 := by rw [o7B, List.length_append, z7A]; omega
   simp (disch := omega) only [b7C, dT, wT, Int.toNat_natCast, em, d, cond_true, Option.bind_some, v5D hm.1 hm.2, a3A, e1, e2, rT]
   rfl) (by simp (disch := omega) only [b7C, dF])
 rw [← this]
 simp only [qZ, List.append_nil]; rfl
theorem i0G {f : FrT} {p : List Int} (hf : l8A f) (h : e2A f p) : l5C f p = some (h6A (f7A f p), h7A (f7A f p)) := by
 obtain ⟨k, L, Q⟩ := f
 have hl : lv L := h.2.1.1
 have hlp : lv p := h.1
 have hQ : ∀ n, n < 16 → -127 ≤ Q.getD n 0 ∧ Q.getD n 0 ≤ 127 := fun n hn => v3E hf h hn
 have hst := s1C hf.1 hl
 have nums := h9G (k := k) (p := p) hf.1 hl hQ
 have lvs := h8G (k := k) (Q := Q) hl hlp
 simp only at hst nums lvs
 by_cases k2 : k = 2
 ·have es : f7A (k, L, Q) p = c8A k L p 6 := by unfold f7A; rw [if_pos k2, List.append_nil]
  rw [es]
  simp (disch := omega) only [l5C, o5B, Option.bind_some, lvs, eT]
 ·have es : f7A (k, L, Q) p = c8A k L p 6 ++ qZ L Q 16 := by unfold f7A; rw [if_neg k2]
  rw [es]
  simp (disch := omega) only [l5C, o5B, Option.bind_some, lvs, eF, hst, nums]
theorem s7C : okF q6A := e5D e8D
theorem v8E : okF w6A := e5D e9D
theorem v9E {m : Int} (h0 : 0 ≤ m) (h1 : m ≤ 127) : okF (j5A m) := e5D (f1D h0 h1)
theorem i1G : q6A.length = 4 := by decide
theorem w0E : w6A.length = 17 := by decide
theorem f5D {m : Int} : (j5A m).length = (2 * m + 1).toNat + 1 := by unfold j5A; rw [o3B, d0C]
theorem i2G {f : FrT} {p : List Int} (h : e2A f p) {z : Sym} (hz : z ∈ c8A f.1 f.2.1 p 6) : r0A z.2 z.1 := by
 unfold c8A at hz
 rcases List.mem_cons.1 hz with rfl | hz
 ·have := v6E h
  exact ⟨s7C, by simp only; omega, by simp only; rw [i1G]; omega⟩
 ·unfold a5A at hz
  obtain ⟨b, hb, rfl⟩ := List.mem_map.1 hz
  have hb := List.mem_range.1 hb
  have hl := v2E h b hb
  unfold lvP
  split
  ·rename_i k1
   have hn : l7A f.2.1 p := by rcases h.2.2 with h2 | ⟨_, h2⟩ | ⟨h2, _⟩ <;> first | omega | exact h2
   have := hn.2.2 b hb
   exact ⟨v8E, by simp only; omega, by simp only; rw [w0E]; omega⟩
  ·exact ⟨q8E, hl.1, by simp only; rw [t8B]; omega⟩
theorem w1E {L Q : List Int} (hL : L.length = 6) (hm : p6A Q L) : ∀ n, n ≤ 16 → ∀ z ∈ qZ L Q n, r0A z.2 z.1
 | 0, _, z, hz => nomatch hz
 | n + 1, hn, z, hz => by
  simp only [qZ] at hz
  have ih := w1E hL hm n (by omega)
  split at hz
  ·exact ih z hz
  ·rcases List.mem_append.1 hz with hz | hz
   ·exact ih z hz
   ·have := List.mem_singleton.1 hz
    subst this
    have h1 := hm.2 n (by omega)
    have h2 := p5A hL hm.1 n
    exact ⟨v9E h2.1 h2.2, by simp only; omega, by simp only; rw [f5D]; omega⟩
theorem w2E {f : FrT} {p : List Int} (hf : l8A f) (h : e2A f p) : ∀ z ∈ f7A f p, r0A z.2 z.1 := by
 intro z hz
 unfold f7A at hz
 rcases List.mem_append.1 hz with hz | hz
 ·exact i2G h hz
 ·split at hz
  ·exact nomatch hz
  ·exact w1E hf.1 h.2.1 16 (Nat.le_refl _) z hz
theorem w3E (f : FrT) (p : List Int) : 7 ≤ (f7A f p).length ∧ (f7A f p).length ≤ 23 := by
 unfold f7A
 have := f4D f.2.1 f.2.2 16
 rw [List.length_append, z7A]
 split
 ·simp
 ·omega
noncomputable def g7A (f : FrT) (p : List Int) : List Int := (z4A (h6A (f7A f p)) (h7A (f7A f p))).1.1
theorem u8B {f : FrT} {p : List Int} (hf : l8A f) (h : e2A f p) : ∃ N d, z4A (h6A (f7A f p)) (h7A (f7A f p)) = ((g7A f p, N), 0) ∧ bytes (g7A f p) ∧ 1 ≤ (g7A f p).length ∧ (g7A f p).length ≤ 600 ∧
  (∀ ns, b3B (f7A f p) ns → 8 * (g7A f p).length ≤ o2A ns + 9) ∧ q3A (g7A f p, 8 * ((g7A f p).length : Int)) = (d, 0) ∧ chain d (f7A f p) := by
 obtain ⟨B, N, d, h1, h2, h3, h4, h5, h6, h7⟩ := h3G (w2E hf h) (by have := w3E f p; omega)
 have h1 : z4A (h6A (f7A f p)) (h7A (f7A f p)) = ((B, N), 0) := h1
 have : g7A f p = B := by unfold g7A; rw [h1]
 rw [this]
 exact ⟨N, d, h1, h2, h3, h4, h5, h6, h7⟩
theorem w4E {f : FrT} {p : List Int} (hf : l8A f) (h : e2A f p) : r3B (h6A (f7A f p)) (h7A (f7A f p)) = some (z4A (h6A (f7A f p)) (h7A (f7A f p))) ∧ s2B (h6A (f7A f p)) (h7A (f7A f p)) = some (z4A (h6A (f7A f p)) (h7A (f7A f p))) := by
 have hl := w3E f p
 have hs := w2E hf h
 refine b9G (by unfold b3A; rw [o6B]; omega) (by unfold b3A; rw [o7B]; omega) (fun C hC => ?_) (fun s hss => ?_)
 ·obtain ⟨z, hz, rfl⟩ := List.mem_map.1 hC
  exact s6C (hs z hz).1
 ·obtain ⟨z, hz, rfl⟩ := List.mem_map.1 hss
  have := (hs z hz).2.2; have := (hs z hz).1.2.1
  omega
theorem v7D {f : FrT} {p : List Int} (hf : l8A f) (hp : p.length = 6) (h : e2A f p) : h8B f p = some (g7A f p, 0) := by
 have c := u1E hf hp
 rw [k2B h] at c
 obtain ⟨N, d, h1, _⟩ := u8B hf h
 have s := (w4E hf h).1
 rw [h1] at s
 simp (disch := omega) only [h8B, c, Option.bind_some, nF, h7G hf hp h, s]
theorem i3G {f : FrT} {p : List Int} (hf : l8A f) (hp : p.length = 6) (h : ¬ e2A f p) : h8B f p = some ([], 1) := by
 have c := u1E hf hp
 rw [t6A h] at c
 simp (disch := omega) only [h8B, c, Option.bind_some, nT]
theorem v8D {f : FrT} {p : List Int} (hf : l8A f) (hp : p.length = 6) (h : e2A f p) : l9C f p = some (g7A f p, 0) := by
 have c := u9D hf hp
 rw [k2B h] at c
 obtain ⟨N, d, h1, _⟩ := u8B hf h
 have s := (w4E hf h).2
 rw [h1] at s
 simp (disch := omega) only [l9C, c, Option.bind_some, nF, i0G hf h, s]
end Go.Sq
namespace Go.Sq
open Go.Rx
theorem k4A (d : e3A) : (d.1, d.2.1, d.2.2.1, (d.2.2.2.1.1, d.2.2.2.1.2), d.2.2.2.2) = d := rfl
theorem f1B {d : e3A} {C : List Int} (hd : wfD d) (hC : okF C) : n6A d C = some (c7A d C) ∧ u1A d C = some (c7A d C) ∧ wfD (c7A d C).1 ∧ ((c7A d C).2.2 = 0 → 0 ≤ (c7A d C).2.1 ∧ (c7A d C).2.1 + 2 ≤ C.length) := by
 obtain ⟨a1, a2, a3⟩ := c1G hd (s6C hC)
 refine ⟨a1, a2, a3, fun h0 => ?_⟩
 obtain ⟨r, h1, _, h3⟩ := p6E hd (s6C hC)
 rw [a1] at h1
 have hr := Option.some.inj h1
 rw [hr] at h0 ⊢
 rcases h3 with ⟨rfl, _⟩ | ⟨lo, hi, c, p, l, _, _, _, _, _, _, _, _, _, _, h4⟩
 ·exact absurd h0 (by decide)
 ·rcases h4 with ⟨rfl, _⟩ | ⟨s, _, hs, rfl⟩
  ·exact absurd h0 (by decide)
  ·have := hs.1
   show 0 ≤ (s : Int) ∧ (s : Int) + 2 ≤ _
   omega
def g3A (k : Int) : List Int := if k = 1 then w6A else o1A
def o3A (k : Int) (p : List Int) (i : Nat) : Int := if k = 1 then p.getD i 0 - 8 else 0
theorem v9D (k : Int) : okF (g3A k) := by
 unfold g3A; split
 ·exact v8E
 ·exact q8E
theorem w0D (k : Int) : (g3A k).length ≤ 257 := by
 unfold g3A; split
 ·rw [w0E]; omega
 ·rw [t8B]; omega
theorem w1D {k : Int} {p : List Int} (h : lv p) {i : Nat} (hi : i < 6) : -8 ≤ o3A k p i ∧ o3A k p i ≤ 247 := by
 have := h i hi
 unfold o3A; split <;> omega
noncomputable def lvR (k : Int) (p : List Int) (d : e3A) : Nat → Option (e3A × List Int)
 | 0 => some (d, List.replicate 6 0)
 | i + 1 => match lvR k p d i with
  | none => none
  | some x => if (c7A x.1 (g3A k)).2.2 = 0 then some ((c7A x.1 (g3A k)).1, x.2.set i ((c7A x.1 (g3A k)).2.1 + o3A k p i)) else none
noncomputable def qR (L : List Int) (d : e3A) : Nat → Option (e3A × List Int)
 | 0 => some (d, List.replicate 16 0)
 | n + 1 => match qR L d n with
  | none => none
  | some x => if h5A L n = 0 then some x else
    if (c7A x.1 (j5A (b2A L n))).2.2 = 0 then some ((c7A x.1 (j5A (b2A L n))).1, x.2.set n ((c7A x.1 (j5A (b2A L n))).2.1 - b2A L n)) else none
theorem d1C {k : Int} {p : List Int} (hp : lv p) {d : e3A} (hd : wfD d) : ∀ i, i ≤ 6 → ∀ e L, lvR k p d i = some (e, L) → wfD e ∧ L.length = 6 ∧ ∀ j, j < 6 → -8 ≤ L.getD j 0 ∧ L.getD j 0 ≤ 600
 | 0, _, e, L, h => by
  cases h
  exact ⟨hd, by simp, fun j hj => by rw [n3A]; omega⟩
 | i + 1, hi, e, L, h => by
  simp only [lvR] at h
  cases hx : lvR k p d i with
  | none => rw [hx] at h; cases h
  | some x =>
   obtain ⟨e0, L0⟩ := x
   rw [hx] at h
   simp only at h
   obtain ⟨f1, f2, f3⟩ := d1C hp hd i (by omega) e0 L0 hx
   have nf := f1B f1 (v9D k)
   split at h
   ·rename_i h0
    have h := Option.some.inj h
    have r := nf.2.2.2 h0
    have b := w1D (k := k) hp (show i < 6 by omega)
    have tl := w0D k
    have e1 := congrArg (·.1) h
    have e2 := congrArg (·.2) h
    simp only at e1 e2
    refine ⟨e1 ▸ nf.2.2.1, by rw [← e2, List.length_set]; exact f2, fun j hj => ?_⟩
    rw [← e2, p2A _ _ _ _ _ (by omega)]
    have := f3 j hj
    split <;> omega
   ·cases h
theorem w2D {k : Int} {p : List Int} {d : e3A} : ∀ i j, lvR k p d i = none → i ≤ j → lvR k p d j = none
  | i, 0, h, hij => by have : i = 0 := by omega
                       subst this; exact h
  | i, j + 1, h, hij => by
    by_cases hc : i = j + 1
    · subst hc; exact h
    · simp only [lvR]; rw [w2D i j h (by omega)]
theorem w3D {L : List Int} (hL : L.length = 6) (hl : lv L) (n : Nat) : okF (j5A (b2A L n)) := v9E (p5A hL hl n).1 (p5A hL hl n).2
theorem f6D {L : List Int} (hL : L.length = 6) (hl : lv L) {d : e3A} (hd : wfD d) : ∀ n, n ≤ 16 → ∀ e Q, qR L d n = some (e, Q) → wfD e ∧ Q.length = 16 ∧ ∀ j, j < 16 → -127 ≤ Q.getD j 0 ∧ Q.getD j 0 ≤ 127
 | 0, _, e, Q, h => by
  cases h
  exact ⟨hd, by simp, fun j hj => by rw [n3A]; omega⟩
 | n + 1, hn, e, Q, h => by
  simp only [qR] at h
  cases hx : qR L d n with
  | none => rw [hx] at h; cases h
  | some x =>
   obtain ⟨e0, Q0⟩ := x
   rw [hx] at h
   simp only at h
   obtain ⟨f1, f2, f3⟩ := f6D hL hl hd n (by omega) e0 Q0 hx
   have nf := f1B f1 (w3D hL hl n)
   have m := p5A hL hl n
   split at h
   ·have h := Option.some.inj h
    have e1 := congrArg (·.1) h
    have e2 := congrArg (·.2) h
    simp only at e1 e2
    subst e1; subst e2
    exact ⟨f1, f2, f3⟩
   ·split at h
    ·rename_i h0
     have h := Option.some.inj h
     have r := nf.2.2.2 h0
     rw [f5D] at r
     have e1 := congrArg (·.1) h
     have e2 := congrArg (·.2) h
     simp only at e1 e2
     refine ⟨e1 ▸ nf.2.2.1, by rw [← e2, List.length_set]; exact f2, fun j hj => ?_⟩
     rw [← e2, p2A _ _ _ _ _ (by omega)]
     have := f3 j hj
     split <;> omega
    ·cases h
theorem w4D {L : List Int} {d : e3A} : ∀ i j, qR L d i = none → i ≤ j → qR L d j = none
  | i, 0, h, hij => by have : i = 0 := by omega
                       subst this; exact h
  | i, j + 1, h, hij => by
    by_cases hc : i = j + 1
    · subst hc; exact h
    · simp only [qR]; rw [w4D i j h (by omega)]
def zFr : FrT := (0, (List.replicate 6 0, List.replicate 16 0))
open Classical in
noncomputable def o8B (k : Int) (p : List Int) (d : e3A) : Option FrT :=
  match lvR k p d 6 with
  | none => none
  | some x => if k = 2 then some (2, (x.2, List.replicate 16 0)) else if ¬ lv x.2 then none else
    match qR x.2 x.1 16 with
    | none => none
    | some y => some (k, (x.2, y.2))
noncomputable def f2B (b p : List Int) : Option FrT :=
 if b.length > 40 then none else if (q3A (b, 8 * (b.length : Int))).2 ≠ 0 then none else
 if (c7A (q3A (b, 8 * (b.length : Int))).1 q6A).2.2 ≠ 0 then none else
 o8B (c7A (q3A (b, 8 * (b.length : Int))).1 q6A).2.1 p (c7A (q3A (b, 8 * (b.length : Int))).1 q6A).1
open Classical in
noncomputable def o4A (b p : List Int) : FrT × Int :=
 if ¬ lv p then (zFr, 1) else match f2B b p with
 | none => (zFr, 21)
 | some f => if e2A f p ∧ g7A f p = b then (f, 0) else (zFr, 21)
theorem i4G {p : List Int} {f : FrT} {t : List Int} {r : e3A × Int} (hp : p.length = 6) (h : lv p) : a1A o5C (p, 0, f, t, p, r, ()) = some (p, f, t, a5A (fun b => p.getD b 0 - 8) 6, r, ()) := by
 rw [← l4A hp]
 exact b7A (f := o5C) (fun i => (p, (i : Int), f, t, b4A (fun b => p.getD b 0 - 8) i p, r, ())) 6 (fun i hi => by
  have e : (b4A (fun b => p.getD b 0 - 8) i p).getD i 0 = p.getD i 0 := by rw [u2A _ _ _ _ _ (by omega), if_neg (by omega)]
  have := h i hi
  simp (disch := omega) only [o5C, dT, wT, Int.toNat_natCast, e, d2A, k3A]
  rw [a3A (by omega) (by omega)]) (by simp (disch := omega) only [o5C, dF])
theorem i5G {k : Int} {p base : List Int} {Q : List Int} {d : e3A} (hp : lv p) (hd : wfD d) (hb : ∀ i, i < 6 → base.getD i 0 = o3A k p i) :
  (∃ e L, lvR k p d 6 = some (e, L) ∧ a1A j1B (p, 0, (k, (List.replicate 6 0, Q)), g3A k, base, (d, 0), ()) = some (.inl (p, (k, (L, Q)), (e, 0), ()))) ∨
  (lvR k p d 6 = none ∧ ∃ g r, a1A j1B (p, 0, (k, (List.replicate 6 0, Q)), g3A k, base, (d, 0), ()) = some (.inr (p, false, g, r, ()))) := by
 obtain ⟨r, h1, h2⟩ := l0A (f := j1B) (fun x => (6 - x.2.1).toNat) (fun x => ∃ (i : Nat) (e : e3A) (L : List Int), x = (p, (i : Int), (k, (L, Q)), g3A k, base, (e, 0), ()) ∧ i ≤ 6 ∧ lvR k p d i = some (e, L))
  (fun r => (∃ e L, lvR k p d 6 = some (e, L) ∧ r = .inl (p, (k, (L, Q)), (e, 0), ())) ∨ (lvR k p d 6 = none ∧ ∃ g y, r = .inr (p, false, g, y, ()))) (by
   rintro x ⟨i, e, L, rfl, hi, hr⟩
   by_cases h6 : i < 6
   ·obtain ⟨f1, f2, f3⟩ := d1C hp hd i hi e L hr
    have nf := f1B f1 (v9D k)
    have b := w1D (k := k) hp h6
    have hbi := hb i h6
    have hL := f3 i h6
    by_cases h0 : (c7A e (g3A k)).2.2 = 0
    ·left
     have rr := nf.2.2.2 h0
     have tl := w0D k
     refine ⟨(p, ((i + 1 : Nat) : Int), (k, (L.set i ((c7A e (g3A k)).2.1 + o3A k p i), Q)), g3A k, base, ((c7A e (g3A k)).1, 0), ()), ?_, ⟨i + 1, _, _, rfl, h6, ?_⟩, by simp only; omega⟩
     ·simp (disch := omega) only [j1B, dT, wT, Int.toNat_natCast, beq_self_eq_true, cond_true, k4A, nf.1, Option.bind_some, h0, Bool.not_true, cond_false, hbi, a3A]
      rfl
     ·simp only [lvR]; rw [hr]; simp only; rw [if_pos h0]
    ·right
     have hn : lvR k p d (i + 1) = none := by simp only [lvR]; rw [hr]; simp only; rw [if_neg h0]
     refine ⟨.inr (p, false, (k, (L, Q)), ((c7A e (g3A k)).1, (c7A e (g3A k)).2.2), ()), ?_, .inr ⟨w2D (i + 1) 6 hn (by omega), _, _, rfl⟩⟩
     have hz : ((c7A e (g3A k)).2.2 == 0) = false := beq_false_of_ne h0
     simp (disch := omega) only [j1B, dT, wT, Int.toNat_natCast, beq_self_eq_true, cond_true, k4A, nf.1, Option.bind_some, hz, Bool.not_false]
   ·right
    have : i = 6 := by omega
    subst this
    refine ⟨_, ?_, .inl ⟨e, L, hr, rfl⟩⟩
    simp (disch := omega) only [j1B, dF]) (p, 0, (k, (List.replicate 6 0, Q)), g3A k, base, (d, 0), ()) ⟨0, d, _, rfl, by omega, rfl⟩
 rcases h2 with ⟨e, L, h3, rfl⟩ | ⟨h3, g, y, rfl⟩
 ·exact .inl ⟨e, L, h3, h1⟩
 ·exact .inr ⟨h3, g, y, h1⟩
theorem i6G {k : Int} {p L : List Int} {d : e3A} (hL : L.length = 6) (hl : lv L) (hd : wfD d) :
  (∃ e Q, qR L d 16 = some (e, Q) ∧ a1A e0B (p, 0, (k, (L, List.replicate 16 0)), g2A L, (d, 0), ()) = some (.inl (p, (k, (L, Q)), (e, 0), ()))) ∨
  (qR L d 16 = none ∧ ∃ g r, a1A e0B (p, 0, (k, (L, List.replicate 16 0)), g2A L, (d, 0), ()) = some (.inr (p, false, g, r, ()))) := by
 obtain ⟨r, h1, h2⟩ := l0A (f := e0B) (fun x => (16 - x.2.1).toNat) (fun x => ∃ (i : Nat) (e : e3A) (Q : List Int), x = (p, (i : Int), (k, (L, Q)), g2A L, (e, 0), ()) ∧ i ≤ 16 ∧ qR L d i = some (e, Q))
  (fun r => (∃ e Q, qR L d 16 = some (e, Q) ∧ r = .inl (p, (k, (L, Q)), (e, 0), ())) ∨ (qR L d 16 = none ∧ ∃ g y, r = .inr (p, false, g, y, ()))) (by
   rintro x ⟨i, e, Q, rfl, hi, hr⟩
   by_cases h6 : i < 16
   ·obtain ⟨f1, f2, f3⟩ := f6D hL hl hd i hi e Q hr
    have nf := f1B f1 (w3D hL hl i)
    have m := p5A hL hl i
    have hw := c9C hL hl i
    have hQ := f3 i h6
    have hb := z5A i
    have ew : (g2A L).getD (d9A i) 0 = h5A L i := rfl
    by_cases hz : h5A L i = 0
    ·left
     refine ⟨(p, ((i + 1 : Nat) : Int), (k, (L, Q)), g2A L, (e, 0), ()), ?_, ⟨i + 1, e, Q, rfl, h6, ?_⟩, by simp only; omega⟩
     ·simp (disch := omega) only [e0B, dT, wT, Int.toNat_natCast, u6B h6, Option.bind_some, ew, eT, k4A, d2A]
     ·simp only [qR]; rw [hr]; simp only; rw [if_pos hz]
    ·have em : i1A (h5A L i) = b2A L i := by unfold b2A; rw [if_neg hz]
     by_cases h0 : (c7A e (j5A (b2A L i))).2.2 = 0
     ·left
      have rr := nf.2.2.2 h0
      rw [f5D] at rr
      refine ⟨(p, ((i + 1 : Nat) : Int), (k, (L, Q.set i ((c7A e (j5A (b2A L i))).2.1 - b2A L i))), g2A L, ((c7A e (j5A (b2A L i))).1, 0), ()), ?_, ⟨i + 1, _, _, rfl, h6, ?_⟩, by simp only; omega⟩
      ·simp (disch := omega) only [e0B, dT, wT, Int.toNat_natCast, u6B h6, Option.bind_some, ew, eF, s0C hw.1 hw.2, em, v4D m.1 m.2, beq_self_eq_true, cond_true, k4A, nf.1, h0, Bool.not_true, cond_false, a3A]
       rfl
      ·simp only [qR]; rw [hr]; simp only; rw [if_neg hz, if_pos h0]
     ·right
      have hn : qR L d (i + 1) = none := by simp only [qR]; rw [hr]; simp only; rw [if_neg hz, if_neg h0]
      refine ⟨.inr (p, false, (k, (L, Q)), ((c7A e (j5A (b2A L i))).1, (c7A e (j5A (b2A L i))).2.2), ()), ?_, .inr ⟨w4D (i + 1) 16 hn (by omega), _, _, rfl⟩⟩
      have hzz : ((c7A e (j5A (b2A L i))).2.2 == 0) = false := beq_false_of_ne h0
      simp (disch := omega) only [e0B, dT, wT, Int.toNat_natCast, u6B h6, Option.bind_some, ew, eF, s0C hw.1 hw.2, em, v4D m.1 m.2, beq_self_eq_true, cond_true, k4A, nf.1, hzz, Bool.not_false]
   ·right
    have : i = 16 := by omega
    subst this
    refine ⟨_, ?_, .inl ⟨e, Q, hr, rfl⟩⟩
    simp (disch := omega) only [e0B, dF]) (p, 0, (k, (L, List.replicate 16 0)), g2A L, (d, 0), ()) ⟨0, d, _, rfl, by omega, rfl⟩
 rcases h2 with ⟨e, Q, h3, rfl⟩ | ⟨h3, g, y, rfl⟩
 ·exact .inl ⟨e, Q, h3, h1⟩
 ·exact .inr ⟨h3, g, y, h1⟩
end Go.Sq
namespace Go.Sq
open Go.Rx
theorem i7G {a b : List Int} (ha : b3A a) (hb : b3A b) : r5B a b = some (decide (a = b)) := by
 unfold b3A at ha hb
 by_cases hl : a.length = b.length
 ·have step : ∀ i, i < a.length → a.getD i 0 = b.getD i 0 → s8B (a, b, (a.length : Int), (i : Int), ()) = some (.inl (a, b, (a.length : Int), ((i + 1 : Nat) : Int), ())) := fun i hi he => by
   simp (disch := omega) only [s8B, dT, wT, Int.toNat_natCast, nF, a3A]
   rfl
  rcases k0B (fun i => a.getD i 0 = b.getD i 0) a.length with h | ⟨k, hk, h, hn⟩
  ·have a1 : a1A s8B (a, b, (a.length : Int), 0, ()) = some (.inl ()) := b7A (fun i => (a, b, (a.length : Int), (i : Int), ())) a.length (fun i hi => step i hi (h i hi)) (by simp (disch := omega) only [s8B, dF])
   simp (disch := omega) only [r5B, nF, a1, Option.bind_some]
   rw [decide_eq_true (p3A 0 hl h)]
  ·have a1 : a1A s8B (a, b, (a.length : Int), 0, ()) = some (.inr (false, ())) := b7A (fun i => (a, b, (a.length : Int), (i : Int), ())) k (fun i hi => step i (by omega) (h i hi)) (by simp (disch := omega) only [s8B, dT, wT, Int.toNat_natCast, nT])
   simp (disch := omega) only [r5B, nF, a1, Option.bind_some]
   rw [decide_eq_false fun e => hn (by rw [e])]
 ·simp (disch := omega) only [r5B, nT]
  rw [decide_eq_false fun e => hl (by rw [e])]
theorem w5E (l : List Int) : (z1A l).toList = l.map fun n => UInt8.ofNat n.toNat := by
 rw [Go.ByteArray.toList_eq]; simp [z1A]
theorem i8G {a b : Nat} (ha : a < 256) (hb : b < 256) (h : UInt8.ofNat a = UInt8.ofNat b) : a = b := by
 have := congrArg UInt8.toNat h
 simp only [UInt8.toNat_ofNat'] at this
 omega
theorem w6E : ∀ {a b : List Int}, bytes a → bytes b → a.map (fun n => UInt8.ofNat n.toNat) = b.map (fun n => UInt8.ofNat n.toNat) → a = b
 | [], [], _, _, _ => rfl
 | [], _ :: _, _, _, h => by simp at h
 | _ :: _, [], _, _, h => by simp at h
 | x :: a, y :: b, ha, hb, h => by
  simp only [List.map_cons, List.cons.injEq] at h
  have hx := ha x List.mem_cons_self
  have hy := hb y List.mem_cons_self
  have h1 := i8G (by omega) (by omega) h.1
  rw [w6E (fun z hz => ha z (List.mem_cons_of_mem _ hz)) (fun z hz => hb z (List.mem_cons_of_mem _ hz)) h.2, show x = y by omega]
theorem w7E {a b : List Int} (ha : bytes a) (hb : bytes b) : t0B (z1A a) (z1A b) = decide (a = b) := by
 unfold t0B
 rw [w5E, w5E, Bool.eq_iff_iff, beq_iff_eq, decide_eq_true_eq]
 exact ⟨w6E ha hb, fun h => by rw [h]⟩
theorem s8C {b : List Int} (h : b.length ≤ 1000) : j1C b = some (b, 8 * (b.length : Int)) := by
 simp (disch := omega) only [j1C, dF, o7E, Option.bind_some, a3A]
theorem d2C {b : List Int} (h : b.length ≤ 1000) : b4D b = some (b, 8 * (b.length : Int)) := by
 simp (disch := omega) only [b4D, dF, rT, a3A]
theorem f7D {b : List Int} (hb : bytes b) (h : b.length ≤ 1000) : ∃ d, q3A (b, 8 * (b.length : Int)) = (d, 0) ∧ wfD d := by
 have hp := q9E b [] hb
 rw [List.append_nil] at hp
 have e : b = pk (t9B b) := by rw [hp]; simp [pk]
 have hl := d0G b
 have hs := s3D (l := t9B b) (by omega)
 rw [← e, hl] at hs
 have hw := (d2D (B := b) (N := 8 * (b.length : Int)) hb (by unfold b3A; omega)).2.2
 have : q3A (b, 8 * (b.length : Int)) = ((0, (4294967295, (j0A (t9B b) 32, ((b, ((8 * b.length : Nat) : Int)), 32)))), 0) := by
  unfold q3A
  rw [show (8 : Int) * (b.length : Int) = ((8 * b.length : Nat) : Int) by omega, hs]; rfl
 rw [this] at hw ⊢
 exact ⟨_, rfl, hw⟩
theorem k4B (f : FrT) : (f.1, f.2.1, f.2.2) = f := rfl
theorem f8D {b p : List Int} (hb : bytes b) (hp : lv p) {f : FrT} (h : f2B b p = some f) : l8A f ∧ b.length ≤ 40 := by
 unfold f2B at h
 split at h
 ·cases h
 rename_i hl
 obtain ⟨d, h1, h2⟩ := f7D hb (show b.length ≤ 1000 by omega)
 rw [h1] at h
 have nk := f1B h2 s7C
 split at h
 ·cases h
 split at h
 ·cases h
 unfold o8B at h
 split at h
 ·cases h
 ·rename_i x hx
  obtain ⟨f1, f2, f3⟩ := d1C hp nk.2.2.1 6 (Nat.le_refl _) x.1 x.2 hx
  split at h
  ·cases h; exact ⟨⟨f2, by simp⟩, by omega⟩
  ·split at h
   ·cases h
   ·rename_i hlv
    split at h
    ·cases h
    ·rename_i y hy
     obtain ⟨g1, g2, g3⟩ := f6D f2 (Classical.not_not.1 hlv) f1 16 (Nat.le_refl _) y.1 y.2 hy
     cases h; exact ⟨⟨f2, g2⟩, by omega⟩
theorem w8E {b p : List Int} {f : FrT} (hb : bytes b) (hp : p.length = 6) (hf : l8A f) (hl : b.length ≤ 40) :
  ((h8B f p).bind fun y33 =>
   ((bif (y33.2 != 0) then some (true, (f.1, (f.2.1, f.2.2)), ())
    else (r5B y33.1 b).bind fun y34 => some ((!y34), (f.1, (f.2.1, f.2.2)), ()) : Option ((Bool × (Int × List Int × List Int) × Unit)))).bind fun j35 =>
   bif j35.1 then some (((0 : Int), ((List.replicate 6 (0 : Int)), (List.replicate 16 (0 : Int)))), (21 : Int)) else some ((j35.2.1.1, (j35.2.1.2.1, j35.2.1.2.2)), 0)) =
  some (open Classical in if e2A f p ∧ g7A f p = b then (f, 0) else (zFr, 21)) := by
 by_cases h : e2A f p
 ·have w := v7D hf hp h
  obtain ⟨N, d, _, _, _, w2, _⟩ := u8B hf h
  have e := i7G (a := g7A f p) (b := b) (by unfold b3A; omega) (by unfold b3A; omega)
  by_cases hw : g7A f p = b
  ·rw [if_pos ⟨h, hw⟩]
   rw [decide_eq_true hw] at e
   simp (disch := omega) only [w, Option.bind_some, nF, e, Bool.not_true, cond_false]
  ·rw [if_neg fun hh => hw hh.2]
   rw [decide_eq_false hw] at e
   simp (disch := omega) only [w, Option.bind_some, nF, e, Bool.not_false, cond_true]
   rfl
 ·have w := i3G hf hp h
  rw [if_neg fun hh => h hh.1]
  simp (disch := omega) only [w, Option.bind_some, nT, cond_true]
  rfl
theorem i9G {b p : List Int} (hb : bytes b) (hs : b3A b) (hp : p.length = 6) : l9B b p = some (o4A b p) := by
  unfold b3A at hs
  have c := o1B hp
  by_cases hl : lv p
  · rw [p4A hl] at c
    unfold o4A
    rw [if_neg (by simpa using hl)]
    have gs := fun f : FrT => f8D hb hl (b := b) (p := p) (f := f)
    unfold f2B at gs ⊢
    by_cases h40 : b.length > 40
    · rw [if_pos h40]
      simp (disch := omega) only [l9B, c, Option.bind_some, nF, dT, e9B, eF, beq_false_of_ne (show (21 : Int) ≠ 0 by decide), Bool.not_false, cond_true]
      rfl
    · rw [if_neg h40] at gs ⊢
      obtain ⟨d, h1, h2⟩ := f7D hb (show b.length ≤ 1000 by omega)
      have st := (d2D (B := b) (N := 8 * (b.length : Int)) hb (by unfold b3A; omega)).1
      rw [h1] at gs ⊢
      rw [h1] at st
      rw [if_neg (by simp)] at gs ⊢
      have nk := f1B h2 s7C
      simp only at gs ⊢
      generalize hx : c7A d q6A = x at nk gs ⊢
      obtain ⟨d1, k, e⟩ := x
      simp only at nk gs ⊢
      by_cases he : e = 0
      · subst he
        rw [if_neg (by simp)] at gs ⊢
        -- the levels
        have lvs : ∀ base : List Int, (∀ i, i < 6 → base.getD i 0 = o3A k p i) → _ := fun base hb' => i5G (Q := List.replicate 16 0) hl nk.2.2.1 hb'
        have key : ∀ base : List Int, (∀ i, i < 6 → base.getD i 0 = o3A k p i) →
            (∃ f, o8B k p d1 = some f ∧ ((a1A j1B (p, 0, (k, (List.replicate 6 0, List.replicate 16 0)), g3A k, base, (d1, 0), ())).bind fun j16 =>
                  (match j16 with
                  | .inl j17 =>
                    (bif (j17.2.1.1 == 2) then some (b, false, p, (j17.2.1.1, (j17.2.1.2.1, j17.2.1.2.2)), ())
                    else (y1A j17.2.1.2.1 120).bind fun y19 =>
                      bif (y19.2 != 0) then some (b, true, p, (j17.2.1.1, (j17.2.1.2.1, j17.2.1.2.2)), ())
                      else (a1A (e0B) (j17.1, 0, (j17.2.1.1, (j17.2.1.2.1, j17.2.1.2.2)), y19.1, ((j17.2.2.1.1.1, (j17.2.2.1.1.2.1, (j17.2.2.1.1.2.2.1, ((j17.2.2.1.1.2.2.2.1.1, j17.2.2.1.1.2.2.2.1.2), j17.2.2.1.1.2.2.2.2)))), j17.2.2.1.2), ())).bind fun j29 =>
                      (match j29 with
                      | .inl j30 => (some (b, false, p, (j30.2.1.1, (j30.2.1.2.1, j30.2.1.2.2)), ()))
                      | .inr j31 => (some (b, (!j31.2.1), p, (j31.2.2.1.1, (j31.2.2.1.2.1, j31.2.2.1.2.2)), ()))))
                  | .inr j18 => (some (b, (!j18.2.1), p, (j18.2.2.1.1, (j18.2.2.1.2.1, j18.2.2.1.2.2)), ())) : Option (List Int × Bool × List Int × FrT × Unit))) = some (b, false, p, f, ())) ∨
            (o8B k p d1 = none ∧ ∃ f, ((a1A j1B (p, 0, (k, (List.replicate 6 0, List.replicate 16 0)), g3A k, base, (d1, 0), ())).bind fun j16 =>
                  (match j16 with
                  | .inl j17 =>
                    (bif (j17.2.1.1 == 2) then some (b, false, p, (j17.2.1.1, (j17.2.1.2.1, j17.2.1.2.2)), ())
                    else (y1A j17.2.1.2.1 120).bind fun y19 =>
                      bif (y19.2 != 0) then some (b, true, p, (j17.2.1.1, (j17.2.1.2.1, j17.2.1.2.2)), ())
                      else (a1A (e0B) (j17.1, 0, (j17.2.1.1, (j17.2.1.2.1, j17.2.1.2.2)), y19.1, ((j17.2.2.1.1.1, (j17.2.2.1.1.2.1, (j17.2.2.1.1.2.2.1, ((j17.2.2.1.1.2.2.2.1.1, j17.2.2.1.1.2.2.2.1.2), j17.2.2.1.1.2.2.2.2)))), j17.2.2.1.2), ())).bind fun j29 =>
                      (match j29 with
                      | .inl j30 => (some (b, false, p, (j30.2.1.1, (j30.2.1.2.1, j30.2.1.2.2)), ()))
                      | .inr j31 => (some (b, (!j31.2.1), p, (j31.2.2.1.1, (j31.2.2.1.2.1, j31.2.2.1.2.2)), ()))))
                  | .inr j18 => (some (b, (!j18.2.1), p, (j18.2.2.1.1, (j18.2.2.1.2.1, j18.2.2.1.2.2)), ())) : Option (List Int × Bool × List Int × FrT × Unit))) = some (b, true, p, f, ())) := by
          intro base hb'
          unfold o8B
          rcases lvs base hb' with ⟨e1, L, r1, r2⟩ | ⟨r1, g, r, r2⟩
          · rw [r1, r2]
            obtain ⟨f1, f2, f3⟩ := d1C hl nk.2.2.1 6 (Nat.le_refl _) e1 L r1
            simp only [Option.bind_some]
            by_cases k2 : k = 2
            · rw [if_pos k2]
              refine .inl ⟨_, rfl, ?_⟩
              rw [eT k2, k2]
            · rw [if_neg k2, eF k2]
              by_cases hlv : lv L
              · rw [if_neg (by simpa using hlv)]
                have sh := (c8C f2 hlv).1
                simp (disch := omega) only [sh, Option.bind_some, nF, k4A]
                rcases i6G (k := k) (p := p) f2 hlv f1 with ⟨e2, Q, r3, r4⟩ | ⟨r3, g, r, r4⟩
                · rw [r3, r4]
                  exact .inl ⟨_, rfl, rfl⟩
                · rw [r3, r4]
                  exact .inr ⟨rfl, _, rfl⟩
              · rw [if_pos hlv]
                have sh := (u5D f2 hlv).1
                simp (disch := omega) only [sh, Option.bind_some, nT]
                exact .inr ⟨trivial, _, rfl⟩
          · rw [r1, r2]
            exact .inr ⟨rfl, _, rfl⟩
        by_cases k1 : k = 1
        · have tk : g3A k = w6A := by unfold g3A; rw [if_pos k1]
          have hbs : ∀ i, i < 6 → (a5A (fun b => p.getD b 0 - 8) 6).getD i 0 = o3A k p i := fun i hi => by rw [e0A _ _ _ _ hi]; unfold o3A; rw [if_pos k1]
          have key := key _ hbs
          rw [tk] at key
          simp (disch := omega) only [l9B, c, Option.bind_some, nF, dF, s8C (show b.length ≤ 1000 by omega), st, e9B, eT, k4A, nk.1, beq_self_eq_true, Bool.not_true, cond_false, cond_true, s4C, u3E, i4G hp hl]
          rcases key with ⟨f, q1, q2⟩ | ⟨q1, f, q2⟩
          · rw [q1] at gs ⊢
            have gs := gs f rfl
            refine (congrArg (fun o => Option.bind o _) q2).trans ?_
            simp only [Option.bind_some, cond_false]
            exact w8E hb hp gs.1 (by omega)
          · rw [q1]
            refine (congrArg (fun o => Option.bind o _) q2).trans ?_
            simp only [Option.bind_some, cond_true]; rfl
        · have tk : g3A k = o1A := by unfold g3A; rw [if_neg k1]
          have hbs : ∀ i, i < 6 → (List.replicate 6 (0 : Int)).getD i 0 = o3A k p i := fun i hi => by rw [n3A]; unfold o3A; rw [if_neg k1]
          have key := key _ hbs
          rw [tk] at key
          simp (disch := omega) only [l9B, c, Option.bind_some, nF, dF, s8C (show b.length ≤ 1000 by omega), st, e9B, eF, k4A, nk.1, beq_self_eq_true, Bool.not_true, cond_false, cond_true, s4C]
          rcases key with ⟨f, q1, q2⟩ | ⟨q1, f, q2⟩
          · rw [q1] at gs ⊢
            have gs := gs f rfl
            refine (congrArg (fun o => Option.bind o _) q2).trans ?_
            simp only [Option.bind_some, cond_false]
            exact w8E hb hp gs.1 (by omega)
          · rw [q1]
            refine (congrArg (fun o => Option.bind o _) q2).trans ?_
            simp only [Option.bind_some, cond_true]; rfl
      · rw [if_pos he]
        have hz : (e == 0) = false := beq_false_of_ne he
        simp (disch := omega) only [l9B, c, Option.bind_some, nF, dF, s8C (show b.length ≤ 1000 by omega), st, e9B, beq_self_eq_true, cond_true, k4A, nk.1, hz, Bool.not_false]
        rfl
  · rw [w4A hl] at c
    unfold o4A
    rw [if_pos hl]
    simp (disch := omega) only [l9B, c, Option.bind_some, nT]
    rfl
end Go.Sq
namespace Go.Sq
open Go.Rx
theorem w9E {k : Int} {L p : List Int} (hL : L.length = 6) {rest : List Sym} {d : e3A} {q : List Int} : ∀ (m i : Nat), i + m = 6 → ∀ e M, lvR k q d i = some (e, M) → chain e (((List.range' i m).map (lvP k L p)) ++ rest) →
  ∃ e' M', lvR k q d 6 = some (e', M') ∧ chain e' rest ∧ M'.length = M.length ∧ (∀ j, j < i → M'.getD j 0 = M.getD j 0) ∧ ∀ j, i ≤ j → j < 6 → M.length = 6 → M'.getD j 0 = (lvP k L p j).1 + o3A k q j
 | 0, i, hi, e, M, h, hc => by
  have : i = 6 := by omega
  subst this
  exact ⟨e, M, h, by simpa using hc, rfl, fun _ _ => rfl, fun j h1 h2 => by omega⟩
 | m + 1, i, hi, e, M, h, hc => by
  rw [List.range'_succ, List.map_cons, List.cons_append] at hc
  obtain ⟨h1, h2⟩ := hc
  have ht : (lvP k L p i).2 = g3A k := by unfold lvP g3A; split <;> rfl
  rw [ht] at h1 h2
  have hs : lvR k q d (i + 1) = some ((c7A e (g3A k)).1, M.set i ((lvP k L p i).1 + o3A k q i)) := by
   simp only [lvR]; rw [h]; simp only; rw [h1, if_pos rfl]
  obtain ⟨e', M', r1, r2, r3, r4, r5⟩ := w9E hL m (i + 1) (by omega) _ _ hs h2
  refine ⟨e', M', r1, r2, by rw [r3, List.length_set], fun j hj => ?_, fun j h3 h4 h5 => ?_⟩
  ·rw [r4 j (by omega)]
   simp only [List.getD_eq_getElem?_getD]
   rw [List.getElem?_set_ne (by omega)]
  ·by_cases hj : j = i
   ·subst hj
    rw [r4 j (by omega), p2A _ _ _ _ _ (by omega), if_pos rfl]
   ·exact r5 j (by omega) h4 (by rw [List.length_set]; exact h5)
noncomputable def gZ (L Q : List Int) (n : Nat) : List Sym := if h5A L n = 0 then [] else [(Q.getD n 0 + b2A L n, j5A (b2A L n))]
theorem x0E (L Q : List Int) : ∀ n, qZ L Q n = ((List.range n).map (gZ L Q)).flatten
 | 0 => rfl
 | n + 1 => by
  rw [List.range_succ, List.map_append, List.flatten_append, ← x0E L Q n]
  simp only [qZ, gZ, List.map_cons, List.map_nil, List.flatten_cons, List.flatten_nil, List.append_nil]
  split
  ·rw [List.append_nil]
  ·rfl
theorem w5D {L Q : List Int} (hm : p6A Q L) {d : e3A} : ∀ (m n : Nat), n + m = 16 → ∀ e M, qR L d n = some (e, M) → M.length = 16 → (∀ j, j < n → M.getD j 0 = Q.getD j 0) → (∀ j, n ≤ j → M.getD j 0 = 0) → chain e (((List.range' n m).map (gZ L Q)).flatten) →
  ∃ e' M', qR L d 16 = some (e', M') ∧ M'.length = 16 ∧ ∀ j, j < 16 → M'.getD j 0 = Q.getD j 0
 | 0, n, hn, e, M, h, hM, h1, _, _ => by
  have : n = 16 := by omega
  subst this
  exact ⟨e, M, h, hM, h1⟩
 | m + 1, n, hn, e, M, h, hM, h1, h2, hc => by
  rw [List.range'_succ, List.map_cons, List.flatten_cons] at hc
  unfold gZ at hc
  by_cases hz : h5A L n = 0
  ·rw [if_pos hz, List.nil_append] at hc
   have hs : qR L d (n + 1) = some (e, M) := by simp only [qR]; rw [h]; simp only; rw [if_pos hz]
   refine w5D hm m (n + 1) (by omega) e M hs hM (fun j hj => ?_) (fun j hj => h2 j (by omega)) hc
   by_cases hj' : j = n
   ·subst hj'
    have := hm.2 j (by omega)
    unfold b2A at this
    rw [if_pos hz] at this
    rw [h2 j (by omega)]; omega
   ·exact h1 j (by omega)
  ·rw [if_neg hz, List.singleton_append] at hc
   obtain ⟨c1, c2⟩ := hc
   have hs : qR L d (n + 1) = some ((c7A e (j5A (b2A L n))).1, M.set n (Q.getD n 0)) := by
    simp only [qR]; rw [h]; simp only; rw [if_neg hz, c1, if_pos rfl]
    simp only [Int.add_sub_cancel]
   refine w5D hm m (n + 1) (by omega) _ _ hs (by rw [List.length_set]; exact hM) (fun j hj => ?_) (fun j hj => ?_) c2
   ·rw [p2A _ _ _ _ _ (by omega)]
    split
    ·rename_i e; rw [e]
    ·exact h1 j (by omega)
   ·rw [p2A _ _ _ _ _ (by omega), if_neg (by omega)]
    exact h2 j (by omega)
theorem x1E (n : Nat) : List.range n = List.range' 0 n := List.range_eq_range'
theorem j0G {f : FrT} {p : List Int} (hf : l8A f) (h : e2A f p) {d : e3A} (hc : chain d (a5A (lvP f.1 f.2.1 p) 6 ++ if f.1 = 2 then [] else qZ f.2.1 f.2.2 16)) : o8B f.1 p d = some f := by
 obtain ⟨k, L, Q⟩ := f
 have hL : L.length = 6 := hf.1
 have hQ : Q.length = 16 := hf.2
 simp only at hc ⊢
 unfold a5A at hc
 rw [x1E] at hc
 obtain ⟨e, M, r1, r2, r3, _, r5⟩ := w9E (q := p) hL 6 0 rfl d (List.replicate 6 0) rfl hc
 have hM : M = L := by
  refine p3A 0 (by rw [r3, hL]; simp) fun j hj => ?_
  rw [r3] at hj; simp at hj
  rw [r5 j (by omega) hj (by simp)]
  unfold lvP o3A
  split
  ·simp only; omega
  ·simp
 subst hM
 unfold o8B
 rw [r1]
 simp only
 by_cases k2 : k = 2
 ·rw [if_pos k2]
  have : Q = List.replicate 16 0 := by rcases h.2.2 with h2 | ⟨h2, _⟩ | ⟨_, h2⟩ <;> first | (simp only at h2; omega) | exact h2
  rw [this, k2]
 ·rw [if_neg k2] at r2 ⊢
  have hlv : lv M := h.2.1.1
  rw [if_neg (by simpa using hlv)]
  rw [x0E, x1E] at r2
  obtain ⟨e2, Q2, s1, s2, s3⟩ := w5D h.2.1 16 0 rfl e (List.replicate 16 0) rfl (by simp) (fun j hj => absurd hj (Nat.not_lt_zero j)) (fun j _ => n3A 16 j) r2
  have : Q2 = Q := p3A 0 (by rw [s2, hQ]) fun j hj => s3 j (by omega)
  rw [s1, this]
theorem j1G {k : Int} (h : k = 0 ∨ k = 1 ∨ k = 2) : u2B k q6A 4 := by
 have ht : c2A q6A = 16 := (u2E e8D).trans (by decide)
 unfold u2B
 rw [ht]
 rcases h with rfl | rfl | rfl <;> decide
theorem j2G {w : List Int} (h : z6A w) {s : Int} (h0 : 0 ≤ s) (h1 : s + 1 ≤ w.length) : 1 ≤ (cum w).getD (s.toNat + 1) 0 - (cum w).getD s.toNat 0 := by
 rw [o4B (by omega), o4B (by omega)]
 have := h.pos s.toNat (by omega)
 simp only [pre]; omega
theorem w6D {w : List Int} (h : z6A w) {s : Int} (h0 : 0 ≤ s) (h1 : s + 1 ≤ w.length) {n : Nat} (hn : n ≤ 14) (ht : pre w w.length ≤ 2 ^ n) : u2B s (cum w) n := by
 refine ⟨?_, hn⟩
 rw [u2E h]
 have g := j2G h h0 h1
 have p : (0 : Int) ≤ 2 ^ n := Int.le_of_lt (Int.pow_pos (by decide))
 have := Int.mul_le_mul_of_nonneg_right g p
 omega
theorem j3G {k : Int} {L p : List Int} (hl : lv L) (hn : k = 1 → l7A L p) {b : Nat} (hb : b < 6) : u2B (lvP k L p b).1 (lvP k L p b).2 8 := by
 have h := hl b hb
 unfold lvP
 split
 ·rename_i k1
  have := (hn k1).2.2 b hb
  exact w6D e9D (by simp only; omega) (by simp only [show s3C.length = 16 by decide]; omega) (by decide) (by decide)
 ·have := w6D u5E (s := L.getD b 0) h.1 (by rw [k3B]; omega) (n := 8) (by decide) (by rw [k3B, f0D _ (by omega)]; decide)
  rw [u6E] at this
  exact this
theorem j4G {w : Int} (h : 0 ≤ w) (h7 : w ≤ 7) : (i1A w + 1) * (i1A w + 1) ≤ 2 ^ (2 * w.toNat) := by
 rcases e0D h h7 with rfl | rfl | rfl | rfl | rfl | rfl | rfl | rfl <;> decide
theorem j5G {L Q : List Int} (hL : L.length = 6) (hm : p6A Q L) {n : Nat} (hn : n < 16) (hz : h5A L n ≠ 0) : u2B (Q.getD n 0 + b2A L n) (j5A (b2A L n)) (2 * (h5A L n).toNat) := by
 have h1 := hm.2 n hn
 have h2 := p5A hL hm.1 n
 have hw := c9C hL hm.1 n
 have em : b2A L n = i1A (h5A L n) := by unfold b2A; rw [if_neg hz]
 refine w6D (f1D h2.1 h2.2) (by omega) (by rw [d0C]; omega) (by omega) ?_
 rw [u8E h2.1, em]
 exact j4G hw.1 hw.2
theorem x2E {f : FrT} {p : List Int} (h : e2A f p) : ∀ i, i ≤ 6 → ∃ ns, b3B (c8A f.1 f.2.1 p i) ns ∧ o2A ns ≤ 4 + 8 * i
 | 0, _ => ⟨[4], ⟨j1G (v6E h), trivial⟩, by simp [o2A]⟩
 | i + 1, hi => by
  obtain ⟨ns, h1, h2⟩ := x2E h i (by omega)
  refine ⟨ns ++ [8], ?_, by rw [t1D]; omega⟩
  rw [← v6D]
  have := j3G (p := p) (k := f.1) (v2E h) (fun k1 => by rcases h.2.2 with h3 | ⟨_, h3⟩ | ⟨h3, _⟩ <;> first | omega | exact h3) (show i < 6 by omega)
  exact t2D h1 this
noncomputable def u9B (L : List Int) : Nat → Nat
 | 0 => 0
 | n + 1 => u9B L n + (h5A L n).toNat
theorem x3E {L Q : List Int} (hL : L.length = 6) (hm : p6A Q L) {hs : List Sym} {ns : List Nat} (h1 : b3B hs ns) : ∀ n, n ≤ 16 → ∃ ms, b3B (hs ++ qZ L Q n) ms ∧ o2A ms ≤ o2A ns + 2 * u9B L n
 | 0, _ => ⟨ns, by rw [show qZ L Q 0 = [] from rfl, List.append_nil]; exact h1, by simp [u9B]⟩
 | n + 1, hn => by
  obtain ⟨ms, h2, h3⟩ := x3E hL hm h1 n (by omega)
  by_cases hz : h5A L n = 0
  ·refine ⟨ms, ?_, by simp only [u9B]; omega⟩
   simp only [qZ]; rw [if_pos hz]; exact h2
  ·refine ⟨ms ++ [2 * (h5A L n).toNat], ?_, by rw [t1D]; simp only [u9B]; omega⟩
   simp only [qZ]; rw [if_neg hz, ← List.append_assoc]
   exact t2D h2 (j5G hL hm (by omega) hz)
theorem j6G {L : List Int} (hL : L.length = 6) (hl : lv L) : u9B L 16 ≤ 120 := by
 obtain ⟨_, _, s3, s4⟩ := c8C hL hl
 have h0 := s3.2 0 (by omega); have h1 := s3.2 1 (by omega); have h2 := s3.2 2 (by omega); have h3 := s3.2 3 (by omega); have h4 := s3.2 4 (by omega); have h5 := s3.2 5 (by omega)
 have e : ∀ n b, d9A n = b → h5A L n = (g2A L).getD b 0 := fun n b h => by unfold h5A; rw [h]
 simp only [u9B, e 0 0 rfl, e 1 1 rfl, e 2 2 rfl, e 3 2 rfl, e 4 3 rfl, e 5 3 rfl, e 6 4 rfl, e 7 4 rfl, e 8 4 rfl, e 9 4 rfl, e 10 5 rfl, e 11 5 rfl, e 12 5 rfl, e 13 5 rfl, e 14 5 rfl, e 15 5 rfl]
 simp only [l5A, c1A, List.getD_cons_zero, List.getD_cons_succ] at s4
 omega
theorem x4E {f : FrT} {p : List Int} (hf : l8A f) (h : e2A f p) : 1 ≤ (g7A f p).length ∧ (g7A f p).length ≤ 37 := by
 obtain ⟨N, d, _, _, w1, w2, w3, _⟩ := u8B hf h
 refine ⟨w1, ?_⟩
 obtain ⟨ns, n1, n2⟩ := x2E h 6 (Nat.le_refl _)
 have : ∃ ms, b3B (f7A f p) ms ∧ o2A ms ≤ 292 := by
  unfold f7A
  split
  ·exact ⟨ns, by rw [List.append_nil]; exact n1, by omega⟩
  ·obtain ⟨ms, m1, m2⟩ := x3E hf.1 h.2.1 n1 16 (Nat.le_refl _)
   have := j6G hf.1 h.2.1.1
   exact ⟨ms, m1, by omega⟩
 obtain ⟨ms, m1, m2⟩ := this
 have := w3 ms m1
 omega
theorem j7G {f : FrT} {p : List Int} (hf : l8A f) (h : e2A f p) : f2B (g7A f p) p = some f := by
 obtain ⟨N, d, _, _, _, _, _, w4, w5⟩ := u8B hf h
 have hl := x4E hf h
 unfold f7A c8A at w5
 rw [List.cons_append] at w5
 obtain ⟨c1, c2⟩ := w5
 unfold f2B
 rw [if_neg (by omega), w4, if_neg (by simp)]
 simp only at c1 c2 ⊢
 rw [c1, if_neg (by simp)]
 simp only
 exact j0G hf h c2
theorem x5E {f : FrT} {p : List Int} (hf : l8A f) (h : e2A f p) : o4A (g7A f p) p = (f, 0) := by
 unfold o4A
 rw [if_neg (by simpa using h.1), j7G hf h]
 simp only
 rw [if_pos ⟨h, rfl⟩]
theorem x6E {b p : List Int} {f : FrT} (h : o4A b p = (f, 0)) : e2A f p ∧ g7A f p = b ∧ f2B b p = some f := by
 unfold o4A at h
 split at h
 ·exact absurd (congrArg (·.2) h) (show (1 : Int) ≠ 0 by decide)
 ·split at h
  ·exact absurd (congrArg (·.2) h) (show (21 : Int) ≠ 0 by decide)
  ·rename_i g hg
   split at h
   ·rename_i hh
    have : g = f := congrArg (·.1) h
    subst this
    exact ⟨hh.1, hh.2, hg⟩
   ·exact absurd (congrArg (·.2) h) (show (21 : Int) ≠ 0 by decide)
theorem v0B {f : FrT} {p : List Int} (hf : l8A f) (h : e2A f p) : bytes (g7A f p) ∧ b3A (g7A f p) := by
 obtain ⟨N, d, _, w0, _, w2, _⟩ := u8B hf h
 exact ⟨w0, by unfold b3A; omega⟩
noncomputable def s9C (b : List Int) : Int × Int :=
 if b.length = 0 ∨ b.length > 40 then (0, 21) else if (c7A (q3A (b, 8 * (b.length : Int))).1 q6A).2.2 = 0 then ((c7A (q3A (b, 8 * (b.length : Int))).1 q6A).2.1, 0) else (0, 21)
theorem j8G {b : List Int} (hb : bytes b) (hs : b3A b) : m1B b = some (s9C b) := by
 unfold b3A at hs
 unfold s9C
 by_cases h0 : b.length = 0
 ·rw [if_pos (.inl h0)]
  simp (disch := omega) only [m1B, eT, Option.bind_some, cond_true]
 ·by_cases h40 : b.length > 40
  ·rw [if_pos (.inr h40)]
   simp (disch := omega) only [m1B, eF, dT, e9B, Option.bind_some, beq_false_of_ne (show (21 : Int) ≠ 0 by decide), Bool.not_false, cond_true, cond_false]
  ·rw [if_neg (by omega)]
   obtain ⟨d, h1, h2⟩ := f7D hb (show b.length ≤ 1000 by omega)
   have st := (d2D (B := b) (N := 8 * (b.length : Int)) hb (by unfold b3A; omega)).1
   rw [h1] at st ⊢
   have nk := (f1B h2 s7C).1
   simp only
   by_cases he : (c7A d q6A).2.2 = 0
   ·rw [if_pos he]
    simp (disch := omega) only [m1B, eF, dF, s8C (show b.length ≤ 1000 by omega), st, e9B, Option.bind_some, beq_self_eq_true, cond_true, k4A, nk, he, Bool.not_true, cond_false]
   ·rw [if_neg he]
    have hz : ((c7A d q6A).2.2 == 0) = false := beq_false_of_ne he
    simp (disch := omega) only [m1B, eF, dF, s8C (show b.length ≤ 1000 by omega), st, e9B, Option.bind_some, beq_self_eq_true, cond_true, k4A, nk, hz, Bool.not_false]
theorem j9G {f : FrT} {p : List Int} (hf : l8A f) (h : e2A f p) : s9C (g7A f p) = (f.1, 0) := by
 obtain ⟨N, d, _, _, _, _, _, w4, w5⟩ := u8B hf h
 have hl := x4E hf h
 unfold f7A c8A at w5
 rw [List.cons_append] at w5
 obtain ⟨c1, c2⟩ := w5
 unfold s9C
 rw [if_neg (by omega), w4]
 simp only at c1 ⊢
 rw [c1]; rfl
theorem k0G : lv (List.replicate 6 0) := by decide
end Go.Sq
namespace Go.Sq
open Go.Rx
end Go.Sq
namespace Go.Sq
open Go.Rx
theorem k1G {k : Int} {p : List Int} {Q : List Int} {d : e3A} (hp : lv p) (hd : wfD d) :
  (∃ e L, lvR k p d 6 = some (e, L) ∧ a1A j2B (0, p, zFr, (k, (List.replicate 6 0, Q)), d, ()) = some (.inl (zFr, (k, (L, Q)), e, ()))) ∨
  (lvR k p d 6 = none ∧ ∃ g, a1A j2B (0, p, zFr, (k, (List.replicate 6 0, Q)), d, ()) = some (.inr (false, g, ()))) := by
 obtain ⟨r, h1, h2⟩ := l0A (f := j2B) (fun x => (6 - x.1).toNat) (fun x => ∃ (i : Nat) (e : e3A) (L : List Int), x = ((i : Int), p, zFr, (k, (L, Q)), e, ()) ∧ i ≤ 6 ∧ lvR k p d i = some (e, L))
  (fun r => (∃ e L, lvR k p d 6 = some (e, L) ∧ r = .inl (zFr, (k, (L, Q)), e, ())) ∨ (lvR k p d 6 = none ∧ ∃ g, r = .inr (false, g, ()))) (by
   rintro x ⟨i, e, L, rfl, hi, hr⟩
   by_cases h6 : i < 6
   ·obtain ⟨f1, f2, f3⟩ := d1C hp hd i hi e L hr
    have nf := f1B f1 (v9D k)
    have b := w1D (k := k) hp h6
    have hpi := hp i h6
    have tl := w0D k
    by_cases h0 : (c7A e (g3A k)).2.2 = 0
    ·left
     have rr := nf.2.2.2 h0
     refine ⟨(((i + 1 : Nat) : Int), p, zFr, (k, (L.set i ((c7A e (g3A k)).2.1 + o3A k p i), Q)), (c7A e (g3A k)).1, ()), ?_, ⟨i + 1, _, _, rfl, h6, ?_⟩, by simp only; omega⟩
     ·by_cases k1 : k = 1
      ·have tk : g3A k = w6A := by unfold g3A; rw [if_pos k1]
       have bk : o3A k p i = p.getD i 0 - 8 := by unfold o3A; rw [if_pos k1]
       rw [tk] at nf h0 rr tl ⊢
       rw [bk, show (c7A e w6A).2.1 + (p.getD i 0 - 8) = p.getD i 0 + (c7A e w6A).2.1 - 8 by omega]
       simp (disch := omega) only [j2B, dT, s5C, v2D, Option.bind_some, eT, k4A, nf.2.1, nF, wT, Int.toNat_natCast, List.set_set, a3A]
       rfl
      ·have tk : g3A k = o1A := by unfold g3A; rw [if_neg k1]
       have bk : o3A k p i = 0 := by unfold o3A; rw [if_neg k1]
       rw [tk] at nf h0 rr tl ⊢
       rw [bk, Int.add_zero]
       simp (disch := omega) only [j2B, dT, s5C, Option.bind_some, eF, k4A, nf.2.1, nF, wT, Int.toNat_natCast, a3A]
       rfl
     ·simp only [lvR]; rw [hr]; simp only; rw [if_pos h0]
    ·right
     have hn : lvR k p d (i + 1) = none := by simp only [lvR]; rw [hr]; simp only; rw [if_neg h0]
     refine ⟨.inr (false, (k, (L, Q)), ()), ?_, .inr ⟨w2D (i + 1) 6 hn (by omega), _, rfl⟩⟩
     by_cases k1 : k = 1
     ·have tk : g3A k = w6A := by unfold g3A; rw [if_pos k1]
      rw [tk] at nf h0
      simp (disch := omega) only [j2B, dT, s5C, v2D, Option.bind_some, eT, k4A, nf.2.1, nT]
     ·have tk : g3A k = o1A := by unfold g3A; rw [if_neg k1]
      rw [tk] at nf h0
      simp (disch := omega) only [j2B, dT, s5C, Option.bind_some, eF, k4A, nf.2.1, nT]
   ·right
    have : i = 6 := by omega
    subst this
    refine ⟨_, ?_, .inl ⟨e, L, hr, rfl⟩⟩
    simp (disch := omega) only [j2B, dF, k4A]) (0, p, zFr, (k, (List.replicate 6 0, Q)), d, ()) ⟨0, d, _, rfl, by omega, rfl⟩
 rcases h2 with ⟨e, L, h3, rfl⟩ | ⟨h3, g, rfl⟩
 ·exact .inl ⟨e, L, h3, h1⟩
 ·exact .inr ⟨h3, g, h1⟩
theorem k2G {k : Int} {L : List Int} {d : e3A} (hL : L.length = 6) (hl : lv L) (hd : wfD d) :
  (∃ e Q, qR L d 16 = some (e, Q) ∧ a1A z0A (true, a5A (b2A L) 16, 0, zFr, (k, (L, List.replicate 16 0)), d, ()) = some (.inl (zFr, (k, (L, Q)), ()))) ∨
  (qR L d 16 = none ∧ ∃ g, a1A z0A (true, a5A (b2A L) 16, 0, zFr, (k, (L, List.replicate 16 0)), d, ()) = some (.inr (false, g, ()))) := by
 obtain ⟨r, h1, h2⟩ := l0A (f := z0A) (fun x => (16 - x.2.2.1).toNat) (fun x => ∃ (i : Nat) (e : e3A) (Q : List Int), x = (true, a5A (b2A L) 16, (i : Int), zFr, (k, (L, Q)), e, ()) ∧ i ≤ 16 ∧ qR L d i = some (e, Q))
  (fun r => (∃ e Q, qR L d 16 = some (e, Q) ∧ r = .inl (zFr, (k, (L, Q)), ())) ∨ (qR L d 16 = none ∧ ∃ g, r = .inr (false, g, ()))) (by
   rintro x ⟨i, e, Q, rfl, hi, hr⟩
   by_cases h6 : i < 16
   ·obtain ⟨f1, f2, f3⟩ := f6D hL hl hd i hi e Q hr
    have nf := f1B f1 (w3D hL hl i)
    have m := p5A hL hl i
    have mz := v7E hL hl (n := i)
    have em : (a5A (b2A L) 16).getD i 0 = b2A L i := e0A _ _ _ _ h6
    by_cases hz : h5A L i = 0
    ·left
     have hm0 : b2A L i = 0 := by unfold b2A; rw [if_pos hz]
     refine ⟨(true, a5A (b2A L) 16, ((i + 1 : Nat) : Int), zFr, (k, (L, Q)), e, ()), ?_, ⟨i + 1, e, Q, rfl, h6, ?_⟩, by simp only; omega⟩
     ·simp (disch := omega) only [z0A, dT, wT, Int.toNat_natCast, Bool.not_true, cond_false, em, hm0, beq_self_eq_true, Option.bind_some, cond_true, k4A, d2A]
     ·simp only [qR]; rw [hr]; simp only; rw [if_pos hz]
    ·have hm0 : (b2A L i == 0) = false := beq_false_of_ne (by have := mz.2 hz; omega)
     by_cases h0 : (c7A e (j5A (b2A L i))).2.2 = 0
     ·left
      have rr := nf.2.2.2 h0
      rw [f5D] at rr
      refine ⟨(true, a5A (b2A L) 16, ((i + 1 : Nat) : Int), zFr, (k, (L, Q.set i ((c7A e (j5A (b2A L i))).2.1 - b2A L i))), (c7A e (j5A (b2A L i))).1, ()), ?_, ⟨i + 1, _, _, rfl, h6, ?_⟩, by simp only; omega⟩
      ·simp (disch := omega) only [z0A, dT, wT, Int.toNat_natCast, Bool.not_true, cond_false, em, hm0, Option.bind_some, v5D m.1 m.2, k4A, nf.2.1, nF, a3A]
       rfl
      ·simp only [qR]; rw [hr]; simp only; rw [if_neg hz, if_pos h0]
     ·right
      have hn : qR L d (i + 1) = none := by simp only [qR]; rw [hr]; simp only; rw [if_neg hz, if_neg h0]
      refine ⟨.inr (false, (k, (L, Q)), ()), ?_, .inr ⟨w4D (i + 1) 16 hn (by omega), _, rfl⟩⟩
      simp (disch := omega) only [z0A, dT, wT, Int.toNat_natCast, Bool.not_true, cond_false, em, hm0, Option.bind_some, v5D m.1 m.2, k4A, nf.2.1, nT]
   ·right
    have : i = 16 := by omega
    subst this
    refine ⟨_, ?_, .inl ⟨e, Q, hr, rfl⟩⟩
    simp (disch := omega) only [z0A, dF, k4B]) (true, a5A (b2A L) 16, 0, zFr, (k, (L, List.replicate 16 0)), d, ()) ⟨0, d, _, rfl, by omega, rfl⟩
 rcases h2 with ⟨e, Q, h3, rfl⟩ | ⟨h3, g, rfl⟩
 ·exact .inl ⟨e, Q, h3, h1⟩
 ·exact .inr ⟨h3, g, h1⟩
theorem k3G {m : List Int} {f : FrT} {d : e3A} : a1A z0A (false, m, 0, zFr, f, d, ()) = some (.inl (zFr, f, ())) :=
 b7A (f := z0A) (fun i => (false, m, (i : Int), zFr, f, d, ())) 16 (fun i hi => by
  simp (disch := omega) only [z0A, dT, wT, Bool.not_false, cond_true, Option.bind_some, k4A, d2A]) (by simp (disch := omega) only [z0A, dF])
theorem k4G {b p : List Int} (hb : bytes b) (hs : b3A b) (hp : lv p) :
  (∃ f, f2B b p = some f ∧ y7A b p = some (f, true)) ∨ (f2B b p = none ∧ ((∃ f, y7A b p = some (f, false)) ∨ ∃ f, l8A f ∧ ¬ lv f.2.1 ∧ y7A b p = some (f, true))) := by
 unfold b3A at hs
 unfold f2B
 by_cases h40 : b.length > 40
 ·rw [if_pos h40]
  refine .inr ⟨rfl, .inl ⟨zFr, ?_⟩⟩
  simp (disch := omega) only [y7A, dT]
  rfl
 ·rw [if_neg h40]
  obtain ⟨d, h1, h2⟩ := f7D hb (show b.length ≤ 1000 by omega)
  have st := (d2D (B := b) (N := 8 * (b.length : Int)) hb (by unfold b3A; omega)).2.1
  rw [h1] at st ⊢
  rw [if_neg (by simp)]
  have nk := f1B h2 s7C
  simp only
  generalize hx : c7A d q6A = x at nk ⊢
  obtain ⟨d1, k, e⟩ := x
  simp only at nk ⊢
  by_cases he : e = 0
  ·subst he
   rw [if_neg (by simp)]
   unfold o8B
   have z : ((0, (List.replicate 6 0, List.replicate 16 0)) : FrT) = zFr := rfl
   rcases k1G (k := k) (Q := List.replicate 16 0) hp nk.2.2.1 with ⟨e1, L, r1, r2⟩ | ⟨r1, g, r2⟩
   ·rw [r1]
    obtain ⟨f1, f2, f3⟩ := d1C hp nk.2.2.1 6 (Nat.le_refl _) e1 L r1
    simp only
    by_cases k2 : k = 2
    ·rw [if_pos k2]
     refine .inl ⟨_, rfl, ?_⟩
     simp (disch := omega) only [y7A, dF, d2C (show b.length ≤ 1000 by omega), Option.bind_some, st, nF, o5B, k4A, nk.2.1, z, k2]
     subst k2
     rw [r2]
     simp (disch := omega) only [Option.bind_some, eT]
    ·rw [if_neg k2]
     by_cases hlv : lv L
     ·rw [if_neg (by simpa using hlv)]
      have ss := s1C f2 hlv
      rcases k2G (k := k) f2 hlv f1 with ⟨e2, Q, r3, r4⟩ | ⟨r3, g, r4⟩
      ·rw [r3]
       refine .inl ⟨_, rfl, ?_⟩
       simp (disch := omega) only [y7A, dF, d2C (show b.length ≤ 1000 by omega), Option.bind_some, st, nF, o5B, k4A, nk.2.1, z, r2, eF, ss, k4B, r4]
      ·rw [r3]
       refine .inr ⟨rfl, .inl ⟨g, ?_⟩⟩
       simp (disch := omega) only [y7A, dF, d2C (show b.length ≤ 1000 by omega), Option.bind_some, st, nF, o5B, k4A, nk.2.1, z, r2, eF, ss, k4B, r4]
     ·rw [if_pos hlv]
      have ss := t7E f2 hlv
      refine .inr ⟨rfl, .inr ⟨(k, (L, List.replicate 16 0)), ⟨f2, by simp⟩, hlv, ?_⟩⟩
      simp (disch := omega) only [y7A, dF, d2C (show b.length ≤ 1000 by omega), Option.bind_some, st, nF, o5B, k4A, nk.2.1, z, r2, eF, ss, k4B, k3G]
   ·rw [r1]
    refine .inr ⟨rfl, .inl ⟨g, ?_⟩⟩
    simp (disch := omega) only [y7A, dF, d2C (show b.length ≤ 1000 by omega), Option.bind_some, st, nF, o5B, k4A, nk.2.1, z, r2, k4B]
  ·rw [if_pos he]
   refine .inr ⟨rfl, .inl ⟨zFr, ?_⟩⟩
   simp (disch := omega) only [y7A, dF, d2C (show b.length ≤ 1000 by omega), Option.bind_some, st, nF, o5B, k4A, nk.2.1, nT]
   rfl
theorem k5G {b p : List Int} (hb : bytes b) (hs : b3A b) (hp : p.length = 6) : i6B b p = some (o4A b p) := by
 have c := k1B hp
 by_cases hl : lv p
 ·rw [p4A hl] at c
  unfold o4A
  rw [if_neg (by simpa using hl)]
  rcases k4G hb hs hl with ⟨f, g1, g2⟩ | ⟨g1, ⟨f, g2⟩ | ⟨f, g3, g4, g2⟩⟩
  ·rw [g1]
   have hf := (f8D hb hl g1).1
   have ck := u9D hf hp
   simp only
   by_cases h : e2A f p
   ·rw [k2B h] at ck
    have w := v8D hf hp h
    have e := w7E (v0B hf h).1 hb
    by_cases hw : g7A f p = b
    ·rw [if_pos ⟨h, hw⟩]
     rw [decide_eq_true hw] at e
     simp (disch := omega) only [i6B, c, Option.bind_some, nF, g2, Bool.not_true, cond_false, k4B, ck, bne_self_eq_false, w, e]
    ·rw [if_neg fun hh => hw hh.2]
     rw [decide_eq_false hw] at e
     simp (disch := omega) only [i6B, c, Option.bind_some, nF, g2, Bool.not_true, Bool.not_false, cond_false, cond_true, k4B, ck, bne_self_eq_false, w, e]
     rfl
   ·rw [t6A h] at ck
    rw [if_neg fun hh => h hh.1]
    simp (disch := omega) only [i6B, c, Option.bind_some, nF, g2, Bool.not_true, cond_false, k4B, ck, show ((1 : Int) != 0) = true from rfl, cond_true]
    rfl
  ·rw [g1]
   simp (disch := omega) only [i6B, c, Option.bind_some, nF, g2, Bool.not_false, cond_true]
   rfl
  ·rw [g1]
   have ck := u9D g3 hp
   rw [t6A fun h => g4 h.2.1.1] at ck
   simp (disch := omega) only [i6B, c, Option.bind_some, nF, g2, Bool.not_true, cond_false, k4B, ck, show ((1 : Int) != 0) = true from rfl, cond_true]
   rfl
 ·rw [w4A hl] at c
  unfold o4A
  rw [if_pos hl]
  simp (disch := omega) only [i6B, c, Option.bind_some, nT]
  rfl
end Go.Sq
