/- Parts of a proof: evaluation of Go code over typed values, and what it computes. -/
import Derived.Test.YtefeeifdndoggaaDoorF
import Derived.Test.YtefeeifdndoggaaDoorL3
import Derived.Test.YtefeeifdndoggaaDoorX4
set_option linter.unusedSimpArgs false
set_option linter.unusedVariables false
set_option linter.unusedSectionVars false
namespace Go.Sq
open Go.Rx
abbrev by8 (s : ByteArray) (i : Nat) : Nat := (s.data.getD i 0).toNat
abbrev sfx (s : ByteArray) (p : Nat) : ByteArray := s.extract p s.size
theorem sfx_size (s : ByteArray) (p : Nat) : (sfx s p).size = s.size - p := by simp [sfx, ByteArray.size_extract]
def co (s : ByteArray) (i : Nat) : Prop := i < s.size ∧ by8 s i / 64 = 2
instance (s : ByteArray) (i : Nat) : Decidable (co s i) := by unfold co; infer_instance
def two (s : ByteArray) : Nat := by8 s 0 % 32 * 64 + by8 s 1 % 64
def three (s : ByteArray) : Nat := (by8 s 0 % 16 * 64 + by8 s 1 % 64) * 64 + by8 s 2 % 64
def four (s : ByteArray) : Nat := ((by8 s 0 % 8 * 64 + by8 s 1 % 64) * 64 + by8 s 2 % 64) * 64 + by8 s 3 % 64
def fstR (s : ByteArray) : Nat × Nat :=
 if by8 s 0 < 128 then (by8 s 0, 1)
 else if 194 ≤ by8 s 0 ∧ by8 s 0 < 224 then if co s 1 then (two s, 2) else (0, 0)
 else if 224 ≤ by8 s 0 ∧ by8 s 0 < 240 then if co s 1 ∧ co s 2 ∧ 2048 ≤ three s ∧ ¬ (55296 ≤ three s ∧ three s < 57344) then (three s, 3) else (0, 0)
 else if 240 ≤ by8 s 0 ∧ by8 s 0 < 245 then if co s 1 ∧ co s 2 ∧ co s 3 ∧ 65536 ≤ four s ∧ four s ≤ 1114111 then (four s, 4) else (0, 0)
 else (0, 0)
end Go.Sq
namespace Go.Sq
open Go.Rx
theorem fst_pos {s : ByteArray} (h : (fstR s).2 ≠ 0) : 1 ≤ (fstR s).2 ∧ (fstR s).2 ≤ 4 ∧ (0 < s.size → (fstR s).2 ≤ s.size) := by
 unfold fstR at h ⊢
 split
 ·exact ⟨Nat.le_refl 1, show 1 ≤ 4 by decide, id⟩
 ·split
  ·split
   ·rename_i k; exact ⟨show 1 ≤ 2 by decide, show 2 ≤ 4 by decide, fun _ => k.1⟩
   ·rename_i a b c; rw [if_neg a, if_pos b, if_neg c] at h; exact absurd rfl h
  ·split
   ·split
    ·rename_i k; exact ⟨show 1 ≤ 3 by decide, show 3 ≤ 4 by decide, fun _ => k.2.1.1⟩
    ·rename_i a b c d; rw [if_neg a, if_neg b, if_pos c, if_neg d] at h; exact absurd rfl h
   ·split
    ·split
     ·rename_i k; exact ⟨show 1 ≤ 4 by decide, show 4 ≤ 4 by decide, fun _ => k.2.2.1.1⟩
     ·rename_i a b c d e; rw [if_neg a, if_neg b, if_neg c, if_pos d, if_neg e] at h; exact absurd rfl h
    ·rename_i a b c d; rw [if_neg a, if_neg b, if_neg c, if_neg d] at h; exact absurd rfl h
def runes (s : ByteArray) : Option (List Nat) :=
 if _h : s.size = 0 then some [] else
 if k : (fstR s).2 = 0 then none else
 (runes (sfx s (fstR s).2)).map ((fstR s).1 :: ·)
termination_by s.size
decreasing_by
 rw [sfx_size]
 have := (fst_pos k).1
 omega
theorem runes_nil {s : ByteArray} (h : s.size = 0) : runes s = some [] := by rw [runes, dif_pos h]
theorem runes_step {s : ByteArray} (h : s.size ≠ 0) (k : (fstR s).2 ≠ 0) : runes s = (runes (sfx s (fstR s).2)).map ((fstR s).1 :: ·) := by
 rw [runes, dif_neg h, dif_neg k]
def cleanR (v : Nat) : Bool := decide (32 ≤ v) && v != 127
def nameP (s : ByteArray) : Bool :=
 match runes s with
 | none => false
 | some l => l.all cleanR && decide (l.length ≤ 16)
end Go.Sq
namespace Go.Sq
open Go.Rx
theorem fst_low {s : ByteArray} (h : by8 s 0 < 128) : fstR s = (by8 s 0, 1) := if_pos h
end Go.Sq
namespace Go.Sq
open Go.Rx
def okN (s : ByteArray) (lo hi : Nat) : Nat → Prop
 | 2 => 2 ≤ s.size ∧ lo ≤ by8 s 1 ∧ by8 s 1 ≤ hi
 | 3 => 3 ≤ s.size ∧ lo ≤ by8 s 1 ∧ by8 s 1 ≤ hi ∧ 128 ≤ by8 s 2 ∧ by8 s 2 ≤ 191
 | 4 => 4 ≤ s.size ∧ lo ≤ by8 s 1 ∧ by8 s 1 ≤ hi ∧ 128 ≤ by8 s 2 ∧ by8 s 2 ≤ 191 ∧ 128 ≤ by8 s 3 ∧ by8 s 3 ≤ 191
 | _ => False
instance (s : ByteArray) (lo hi n : Nat) : Decidable (okN s lo hi n) := by unfold okN; split <;> infer_instance
end Go.Sq
namespace Go.Sq
open Go.Rx
end Go.Sq
namespace Go.Sq
open Go.Rx
abbrev Msg := Int × Int × Int × Int × Int × Int × Int × Int × ByteArray × List Int
def nO (x : Int) : Bool := decide (x ≥ 0) && decide (x ≤ 1073741824)
def okM (m : Msg) : Bool :=
 decide (m.1 ≥ 1) && decide (m.1 ≤ 15) && decide ((m.2.2.2.2.2.2.2.2.2.length : Int) ≤ 64) && ((m.1 == 13) == decide ((m.2.2.2.2.2.2.2.2.2.length : Int) > 0)) &&
 nO m.2.1 && nO m.2.2.1 && nO m.2.2.2.1 && nO m.2.2.2.2.1 && nO m.2.2.2.2.2.1 && nO m.2.2.2.2.2.2.1 && nO m.2.2.2.2.2.2.2.1 &&
 (bif m.1 == 1 || m.1 == 9 || m.1 == 5 then nameP m.2.2.2.2.2.2.2.2.1 else strEq m.2.2.2.2.2.2.2.2.1 (ByteArray.mk #[]))
end Go.Sq
namespace Go.Sq
open Go.Rx
def scanL {A S R : Type} (stp : S → A → S ⊕ R) : S → List A → S ⊕ R
 | s, [] => .inl s
 | s, a :: l => match stp s a with
  | .inl s' => scanL stp s' l
  | .inr r => .inr r
theorem iter_scan {X R R' A S : Type} {f : X → Option (X ⊕ R)} (l : List A) (st : Nat → S → X) (stp : S → A → S ⊕ R') (bad : R' → R) (fin : S → R)
  (h : ∀ i a s, l[i]? = some a → f (st i s) = some (match stp s a with
   | .inl s' => .inl (st (i + 1) s')
   | .inr r => .inr (bad r))) (he : ∀ s, f (st l.length s) = some (.inr (fin s))) (s : S) :
  iter f (st 0 s) = some (match scanL stp s l with
   | .inl s' => fin s'
   | .inr r => bad r) := by
 have key : ∀ (l2 l1 : List A) (s : S), l = l1 ++ l2 → iter f (st l1.length s) = some (match scanL stp s l2 with
   | .inl s' => fin s'
   | .inr r => bad r) := by
  intro l2
  induction l2 with
  | nil =>
   intro l1 s e
   rw [List.append_nil] at e
   rw [← e]
   exact iter_inr (he s)
  | cons a l2 ih =>
   intro l1 s e
   have := h l1.length a s (by rw [e]; simp)
   unfold scanL
   cases hs : stp s a with
   | inl s' =>
    rw [hs] at this
    rw [iter_inl this]
    have := ih (l1 ++ [a]) s' (by rw [e]; simp)
    rwa [List.length_append, List.length_singleton] at this
   | inr r =>
    rw [hs] at this
    exact iter_inr this
 exact key l [] s rfl
theorem gD {A : Type} {l : List A} {i : Nat} {a : A} (h : l[i]? = some a) (d : A) : l.getD i d = a := by rw [List.getD_eq_getElem?_getD, h]; rfl
theorem lt_of_get {A : Type} {l : List A} {i : Nat} {a : A} (h : l[i]? = some a) : i < l.length := (List.getElem?_eq_some_iff.1 h).1
end Go.Sq
namespace Go.Sq
open Go.Rx
def okL {P A : Type} (q : P → A → Bool) (nxt : A → P) : P → List A → Bool
 | _, [] => true
 | p, a :: l => q p a && okL q nxt (nxt a) l
abbrev Snd := Int × Msg × Int × Int
abbrev Hrd := Int × Int × List Int
abbrev RS := Int × List Snd × List Hrd
def okSend (nx p : Int) (s : Snd) : Bool :=
 (decide (p < s.1) && decide (s.1 < nx)) && (s.2.1.2.2.2.2.1 == s.1) && (decide (s.2.2.1 ≥ 0) && decide (s.2.2.1 ≤ 4)) && (decide (s.2.2.2 ≥ 0) && decide (s.2.2.2 ≤ 2199023255552)) && okM s.2.1
def okNo (p x : Int) : Bool := decide (x > p) && decide (x ≤ 1073741824)
def okHrd (p : Int) (h : Hrd) : Bool :=
 decide (h.1 > p) && decide (h.1 ≤ 1073741824) && (decide (h.2.1 ≥ 0) && decide (h.2.1 ≤ 1073741825)) && decide ((h.2.2.length : Int) ≤ 16) && okL okNo (·) h.2.1 h.2.2
def okW (w : RS) : Bool :=
 (decide (w.1 ≥ 1) && decide (w.1 ≤ 1073741824)) && decide ((w.2.1.length : Int) ≤ 64) && decide ((w.2.2.length : Int) ≤ 64) && okL (okSend w.1) (·.1) 0 w.2.1 && okL okHrd (·.1) (-1) w.2.2
theorem mem_of_get {A : Type} {l : List A} {i : Nat} {a : A} (h : l[i]? = some a) : a ∈ l := List.mem_of_getElem? h
end Go.Sq
namespace Go.Sq
open Go.Rx
end Go.Sq
namespace Go.Sq
open Go.Rx
end Go.Sq
namespace Go.Sq
open Go.Rx
end Go.Sq
namespace Go.Sq
open Go.Rx
def exN : ByteArray := ByteArray.mk #[97]
theorem exN_name : nameP exN = true := by
 unfold nameP
 have h1 : exN.size = 1 := rfl
 have h2 : by8 exN 0 = 97 := rfl
 rw [runes_step (by omega) (by rw [fst_low (by omega)]; decide), fst_low (by omega)]
 rw [runes_nil (by rw [sfx_size]; omega)]
 rw [h2]; rfl
def exM : Msg := (1, 0, 0, 0, 1, 0, 0, 0, exN, [])
theorem exM_ok : okM exM = true := by
 unfold okM
 have : nameP exM.2.2.2.2.2.2.2.2.1 = true := exN_name
 rw [this]; rfl
theorem ok_one {t u : Int} (h1 : 0 ≤ t) (h2 : t ≤ 4) (h3 : 0 ≤ u) (h4 : u ≤ 1000) : okW (2, [(1, exM, t, u)], []) = true := by
 unfold okW okL okL okSend
 rw [exM_ok]
 simp only [decide_eq_true (show t ≥ 0 from h1), decide_eq_true h2, decide_eq_true (show u ≥ 0 from h3), decide_eq_true (show u ≤ 2199023255552 by omega)]
 rfl
end Go.Sq
namespace Go.Sq
open Go.Rx
end Go.Sq
namespace Go.Sq
open Go.Rx
end Go.Sq
namespace Go.Sq
open Go.Rx
end Go.Sq
