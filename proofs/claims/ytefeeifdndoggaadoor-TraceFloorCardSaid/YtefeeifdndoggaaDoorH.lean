/- Parts of a proof: evaluation of Go code over typed values, and what it computes. -/
import Derived.Test.YtefeeifdndoggaaDoorShelf
import Derived.WalkKit
import Derived.BigCall
import Derived.Test.YtefeeifdndoggaaDoorX4
import Derived.Test.YtefeeifdndoggaaDoorF
set_option linter.unusedSimpArgs false
set_option linter.unusedVariables false
set_option linter.unusedSectionVars false
namespace Go.Proofs
open Go.RowKit
set_option maxHeartbeats 1000000 in
set_option maxRecDepth 100000 in
theorem Tryd.copy_used (b : Nat) (w : World) (h0 : w.cell? ⟨b, 0, none⟩ = some (.pointer (some ⟨b, 0, none⟩))) :
  Calls Tryd.prog 51 #[.pointer (some ⟨b, 0, none⟩)] w fun e w' => e = .returned (.tuple #[]) ∧ w' = w := by
 obtain ⟨j, hj, hjs⟩ := Option.map_eq_some_iff.1 (show (Tryd.prog.info? 74).map (·.size) = some 2 by kernel_rfl)
 go_enter Tryd.func51, Tryd.ntmps51
 go_wp2
 rw [Lib.run_neq_ptr_same w _ Tryd.underlying71 hj]
 go_wp2
 go_end0
 exact ⟨rfl, rfl⟩
set_option maxHeartbeats 1000000 in
set_option maxRecDepth 100000 in
theorem Tryd.copy_fresh (b : Nat) (w : World) (h0 : w.cell? ⟨b, 0, none⟩ = some (.pointer none)) (hsh : w.shape? b = some (74, 2)) (hfz : w.frozen? ⟨b, 0, none⟩ = false) :
  Calls Tryd.prog 51 #[.pointer (some ⟨b, 0, none⟩)] w fun e w' => e = .returned (.tuple #[]) ∧ w' = w.setCell ⟨b, 0, none⟩ (.pointer (some ⟨b, 0, none⟩)) := by
 obtain ⟨j, hj, hjs⟩ := Option.map_eq_some_iff.1 (show (Tryd.prog.info? 74).map (·.size) = some 2 by kernel_rfl)
 go_enter Tryd.func51, Tryd.ntmps51
 go_wp2
 rw [Lib.run_to_unsafe w ⟨b, 0, none⟩ Tryd.underlying71 Tryd.underlying92 hj (by rw [hjs]; decide) hsh (Nat.zero_lt_succ 1)]
 simp only [Result.andThen]
 rw [Oper.upon_value]
 go_wp2
 rw [run_callFunc_extern Tryd.func58 (by kernel_rfl) (by kernel_rfl) (by kernel_rfl) (e := Extern.AbiNoEscape.same) (by kernel_rfl)]
 rw [Lib.run_noEscape]
 simp only [Result.andThen]
 rw [Oper.upon_value]
 go_wp2
 rw [Lib.run_from_unsafe w ⟨b, 0, none⟩ Tryd.underlying92 Tryd.underlying71 hj hsh (by kernel_rfl)]
 simp only [Result.andThen]
 rw [Oper.upon_value]
 go_wp2
 go_end0
 exact ⟨rfl, rfl⟩
theorem Tryd.copy_k (B b : Nat) (bs : List Value) (w : World) (h : Lib.IsBuilderF 74 5 B b bs w) :
  Calls Tryd.prog 51 #[.pointer (some ⟨b, 0, none⟩)] w fun e w' => e = .returned (.tuple #[]) ∧ (Lib.BuilderAtF 74 5 B b (.pointer (some ⟨b, 0, none⟩)) bs w' ∧ Below B w w' ∧ Lib.OthersKept 5 (some b) w w') := by
 rcases h with h | h
 ·refine (Tryd.copy_fresh b w h.cell0 h.shape h.frozen0).mono ?_
  rintro e w' ⟨rfl, rfl⟩
  exact ⟨rfl, h.used _, (Below.refl B w).setCell (p := ⟨b, 0, none⟩) h.1 _, (Lib.OthersKept.refl _ _ w).setCell ⟨b, 0, none⟩ rfl _⟩
 ·refine (Tryd.copy_used b w h.cell0).mono ?_
  rintro e w' ⟨rfl, rfl⟩
  exact ⟨rfl, h, Below.refl B _, Lib.OthersKept.refl _ _ _⟩
end Go.Proofs
namespace Go.Proofs
open Go.RowKit
set_option maxHeartbeats 4000000 in
set_option maxRecDepth 100000 in
theorem Tryd.append_ascii (B : Nat) (v : Value) (n : Nat) (xs : List Value) (r : Int) (h0 : 0 ≤ r) (h1 : r ≤ 127) (w : World) (hown : w.ownsRowF B 5 1 v n xs) (hlen : n + 4 ≤ 140737488355328) (hBw : B ≤ w.heap.size) :
    Calls Tryd.prog 52 #[v, .int .i32 r] w fun e w' => ∃ v', e = .returned v' ∧ w'.ownsRowF B 5 1 v' (n + 1) (xs ++ [.int .u8 r]) ∧ ∃ o, (w.alloc o).grownBy w' v.ownBlock := by
  obtain ⟨i0, hi, hz0, hz1, hz2⟩ := info_parts Tryd.Builder_Extra_169.infoByte
  go_enter Tryd.func52, Tryd.ntmps52
  go_wp2_with (at_builtin; refine wpList_append_ownF _ rfl _ _ 72 rfl B 5 i0 (.int .u8 0) 1 1 Tryd.underlying72 hi hz0 hz1 hz2 rfl (by decide) _ _ _ rfl (hown.alloc _) ⟨w.heap.size, 0, none⟩ 1 1 [.int .u8 r] rfl rfl ?c1 ?c2 ?c3 ?c4 ?c5 ?_)
  all_goals first
    | (intro v' w2 hown' hgrow _; go_wp2; go_ret; exact ⟨_, rfl, hown', _, hgrow⟩)
    | (unfold maxLen; omega)
    | omega
    | (simp; omega)
    | rfl
    | (intro u hu; simp at hu; subst hu; rfl)
    | (intro j u hj
       match j, hj with
       | 0, hj => simp at hj; subst hj; simp [Addr.add]
       | (j + 1), hj => simp at hj)
set_option maxHeartbeats 4000000 in
set_option maxRecDepth 100000 in
theorem Tryd.write_ascii (B b : Nat) (bs : List Value) (r : Int) (hr0 : 0 ≤ r) (hr1 : r ≤ 127) (w : World) (h : Lib.IsBuilderF 74 5 B b bs w) (hlen : bs.length + 4 ≤ 140737488355328) (hBw : B ≤ w.heap.size) :
  Calls Tryd.prog 38 #[.pointer (some ⟨b, 0, none⟩), .int .i32 r] w fun e w' => e = .returned (.tuple #[.int .i64 1, .nilIface]) ∧ (Lib.BuilderAtF 74 5 B b (.pointer (some ⟨b, 0, none⟩)) (bs ++ [.int .u8 r]) w' ∧ Below B w w' ∧ Lib.OthersKept 5 (some b) w w') := by
 go_enter Tryd.func38, Tryd.ntmps38
 go_wp2_with (go_at_call 51; refine (Tryd.copy_k B b bs _ h).mono ?_)
 rintro e w1 ⟨rfl, h1, hb1, hk1⟩
 obtain ⟨hB, v, hbk, hown, hne⟩ := h1
 obtain ⟨ao, cap, rfl⟩ : ∃ ao cap, v = .slice ao bs.length cap := by
  rcases hown.2 with ⟨hv, h0⟩ | ⟨g, cap, cur, fz, hv, _⟩
  ·exact ⟨none, 0, by rw [hv, h0]⟩
  ·exact ⟨_, _, hv⟩
 have c0 : w1.cell? ⟨b, 0, none⟩ = some (.pointer (some ⟨b, 0, none⟩)) := by rw [Lib.cell_of_heap hbk]; rfl
 have c1 : w1.cell? ⟨b, 1, none⟩ = some (.slice ao bs.length cap) := by rw [Lib.cell_of_heap hbk]; rfl
 go_wp2_with (go_at_call 52; refine (Tryd.append_ascii B _ bs.length bs r hr0 hr1 _ hown hlen (by have := hb1.size; omega)).mono ?_)
 rintro e w2 ⟨v', rfl, hown', o, hgrow⟩
 have hlt : b < w1.heap.size := by
  rcases Nat.lt_or_ge b w1.heap.size with h' | h'
  ·exact h'
  ·simp [Array.getElem?_eq_none h'] at hbk
 have hb2 : w2.heap[b]? = some (.cells #[.pointer (some ⟨b, 0, none⟩), .slice ao bs.length cap] 74 (0, 0)) := by
  rw [hgrow.block b (by simp; omega) (fun e => hne e.symm), Lib.alloc_old w1 _ b hlt]
  exact hbk
 have d0 : w2.cell? ⟨b, 0, none⟩ = some (.pointer (some ⟨b, 0, none⟩)) := by rw [Lib.cell_of_heap hb2]; rfl
 have d1 : w2.cell? ⟨b, 1, none⟩ = some (.slice ao bs.length cap) := by rw [Lib.cell_of_heap hb2]; rfl
 have f1 : w2.frozen? ⟨b, 1, none⟩ = false := Lib.frozen_of_heap hb2 1
 obtain ⟨g, cap', rfl⟩ : ∃ g cap', v' = .slice (some ⟨g, 0, none⟩) (bs.length + 1) cap' := by
  rcases hown'.2 with ⟨_, h0⟩ | ⟨g, cap', cur, fz, hv, _⟩
  ·omega
  ·exact ⟨g, cap', hv⟩
 go_wp2
 go_ret2
 refine ⟨?_, ?_, ?_, ((hk1.alloc _).grown hgrow (Lib.ownsRowF_kind (hown.alloc _))).setCell ⟨b, 1, none⟩ rfl _⟩
 ·have e : ((bs.length : Int) + 1 - (bs.length : Int)) = 1 := by omega
  simp [e]
 ·exact Lib.BuilderAtF.put (T := 74) (e := 5) hB hb2 (bs' := bs ++ [.int .u8 r]) (by simpa using hown') Tryd.Builder_Extra_169.neB5
 ·exact ((hb1.alloc (by have := hb1.size; omega) _).grown hgrow (by have := hb1.size; simp; omega) (fun k hk => (hown.lt k hk).1)).setCell (p := ⟨b, 1, none⟩) hB _
end Go.Proofs
namespace Go.Proofs
open Go.RowKit Go.Sq
theorem pts_width (s : ByteArray) (pos : Nat) (h : pos < s.size) : 1 ≤ (Utf8.decode s pos).2 := by
 by_cases ha : (s[pos]'h).toNat < 128
 ·rw [decode_ascii s pos h ha]
  exact Nat.le_refl _
 ·exact (decode_high s pos h (by omega)).2
theorem pts_end (s : ByteArray) (fuel pos : Nat) (h : ¬ pos < s.size) : ptsF s fuel pos = [] := by
 cases fuel with
 | zero => rfl
 | succ f => simp [ptsF, h]
theorem byteCells_one (l : List UInt8) (r : Nat) (hr : r < 256) : Lib.byteCells (l ++ [UInt8.ofNat r]) = Lib.byteCells l ++ [.int .u8 (r : Int)] := by
 rw [Lib.byteCells_append]
 congr 1
 simp [Lib.byteCells]
 omega
set_option maxHeartbeats 4000000 in
set_option maxRecDepth 1000000 in
theorem Tryd.points_walk (s : ByteArray) (w : World) (hs : s.size ≤ 35184372088832) :
  Calls Tryd.prog 24 #[.string s] w fun e w' => e = .returned (.string ⟨(ptsF s s.size 0).toArray⟩) ∧ Below w.heap.size w w' := by
 go_enter Tryd.func24, Tryd.ntmps24
 go_wp2
 go_loopw [] (fun wr => ∃ (pos fuel : Nat) (acc : List UInt8), Lib.IsBuilderF 74 5 w.heap.size w.heap.size (Lib.byteCells acc) wr ∧ wr.heap[w.heap.size + 1]? = some (.stringIter s pos) ∧ Below w.heap.size w wr ∧ acc ++ ptsF s fuel pos = ptsF s s.size 0 ∧ s.size ≤ pos + fuel ∧ acc.length ≤ pos) (fun wr => s.size - wr.iterPos (w.heap.size + 1))
 case atStart =>
  refine ⟨0, s.size, [], (Lib.IsBuilderF.of (Lib.fresh_isBuilder 74 5 w)).alloc _, ?_, ((Below.refl _ w).alloc (Nat.le_refl _) _).alloc (by simp) _, rfl, by omega, by simp⟩
  have := World.iter_heap (w.alloc (.cells #[.pointer none, .slice none 0 0] 74)) s 0
  simpa using this
 case round =>
  obtain ⟨pos, fuel, acc, hI, hit, hbw, hacc, hfu, hal⟩ := hrel
  have hsz : w.heap.size + 1 < wr.heap.size := (Array.getElem?_eq_some_iff.1 hit).1
  by_cases hp : pos < s.size
  ·have hnx : ∀ ty, (Instr.next (.pointer (some ⟨w.heap.size + 1, 0, none⟩)) true ty).run Tryd.prog wr = _ := fun ty => Lib.run_next_any_at wr (w.heap.size + 1) s pos ty hit hp
   have hwd := pts_width s pos hp
   have hd1 := decode_le s pos
   have hI2 := hI.iterAt hit (pos + (Utf8.decode s pos).2)
   have hit2 := Lib.iterAt_heap wr (w.heap.size + 1) s pos (pos + (Utf8.decode s pos).2) hit
   have hbw2 := Lib.below_iterAt hbw (k := w.heap.size + 1) (by omega) s (pos + (Utf8.decode s pos).2)
   have hsz2 : w.heap.size ≤ (wr.iterAt (w.heap.size + 1) s (pos + (Utf8.decode s pos).2)).heap.size := by rw [Lib.iterAt_size]; omega
   obtain ⟨f, rfl⟩ : ∃ f, fuel = f + 1 := ⟨fuel - 1, by omega⟩
   by_cases h97 : ((Utf8.decode s pos).1 : Int) < 97
   ·go_wp2_with (go_at_call 38; refine (Tryd.write_ascii w.heap.size w.heap.size _ 46 (by decide) (by decide) _ hI2 (by rw [Lib.byteCells_length]; omega) hsz2).mono ?_)
    rintro e W1 ⟨rfl, h1, b1, k1⟩
    go_wp2
    go_roundw
    case rel =>
     refine ⟨pos + (Utf8.decode s pos).2, f, acc ++ [46], ?_, k1.iter hit2 (by omega), hbw2.trans b1, ?_, by omega, by simp; omega⟩
     ·rw [Lib.byteCells_append]; exact Or.inr h1
     ·rw [← hacc, ptsF, if_pos hp, if_neg (by omega)]; simp
    case measure =>
     simp only [World.iterPos, k1.iter hit2 (by omega), hit]
     omega
   ·by_cases h122 : (122 : Int) < ((Utf8.decode s pos).1 : Int)
    ·go_wp2_with (go_at_call 38; refine (Tryd.write_ascii w.heap.size w.heap.size _ 46 (by decide) (by decide) _ hI2 (by rw [Lib.byteCells_length]; omega) hsz2).mono ?_)
     rintro v W1 rfl h1 b1 k1
     go_wp2
     go_roundw
     case rel =>
      refine ⟨pos + (Utf8.decode s pos).2, f, acc ++ [46], ?_, k1.iter hit2 (by omega), hbw2.trans b1, ?_, by omega, by simp; omega⟩
      ·rw [Lib.byteCells_append]; exact Or.inr h1
      ·rw [← hacc, ptsF, if_pos hp, if_neg (by omega)]; simp
     case measure =>
      simp only [World.iterPos, k1.iter hit2 (by omega), hit]
      omega
    ·go_wp2_with (go_at_call 38; refine (Tryd.write_ascii w.heap.size w.heap.size _ ((Utf8.decode s pos).1 : Int) (by omega) (by omega) _ hI2 (by rw [Lib.byteCells_length]; omega) hsz2).mono ?_)
     rintro v W1 rfl h1 b1 k1
     go_wp2
     go_roundw
     case rel =>
      refine ⟨pos + (Utf8.decode s pos).2, f, acc ++ [UInt8.ofNat (Utf8.decode s pos).1], ?_, k1.iter hit2 (by omega), hbw2.trans b1, ?_, by omega, by simp; omega⟩
      ·rw [byteCells_one _ _ (by omega)]; exact Or.inr h1
      ·rw [← hacc, ptsF, if_pos hp, if_pos ⟨by omega, by omega⟩]; simp
     case measure =>
      simp only [World.iterPos, k1.iter hit2 (by omega), hit]
      omega
  ·have hnx : ∀ ty, (Instr.next (.pointer (some ⟨w.heap.size + 1, 0, none⟩)) true ty).run Tryd.prog wr = _ := fun ty => Lib.run_next_end_at wr (w.heap.size + 1) s pos ty hit hp
   go_wp2_with (go_at_call 39; refine (Tryd.Builder_String_any_k w.heap.size w.heap.size acc _ hI (by omega)).mono ?_)
   rintro e W1 ⟨rfl, _, b1, _⟩
   go_wp2
   go_ret
   rw [pts_end s fuel pos hp, List.append_nil] at hacc
   subst hacc
   exact ⟨rfl, hbw.trans b1⟩
theorem drew_grow (w : World) (k : Nat) (os : Array Obj) : Below w.heap.size w (Sort.grow (w.drewN k) os) := by
 refine ⟨rfl, rfl, rfl, ?_, fun i hi => ?_⟩
 ·simp [Sort.grow, World.drewN]
 ·show ((w.drewN k).heap ++ os)[i]? = _
  rw [Array.getElem?_append_left (show i < (w.drewN k).heap.size from hi)]
  rfl
end Go.Proofs
namespace Go.Rx
open Go.Proofs Go.RowKit Go.Sq
variable [Inhabited GW]
theorem h_points : Contract Tryd.prog 24 [(false, .str)] [(false, .str)] fun s => bif decide (s.size ≤ 35184372088832) then some (ptsT s) else none :=
 hand_contract Tryd.func24 (by kernel_rfl) (by kernel_rfl) (fun s => .string s) (fun B x xv h => by simpa [layOne, laid, headA, VRep, CRep] using h) fun x y hy W _ => by
  by_cases hx : x.size ≤ 35184372088832
  ·rw [decide_eq_true hx] at hy
   cases hy
   exact Tryd.points_walk x W hx
  ·rw [decide_eq_false hx] at hy; cases hy
theorem h_itoa (hf : gfind 0 = some ⟨.arr 20 (.int .u64), Lib.pow10Tab⟩) : Contract Tryd.prog 25 [(false, .int .i64)] [(false, .str)] fun n => bif decide (-9223372036854775808 ≤ n) && decide (n ≤ 9223372036854775807) then some (itoaT n) else none :=
 hand_contract Tryd.func25 (by kernel_rfl) (by kernel_rfl) (fun n => .int .i64 n) (fun B x xv h => by simpa [layOne, laid, headA, VRep, CRep] using h) fun x y hy W hW => by
  by_cases h1 : -9223372036854775808 ≤ x
  ·by_cases h2 : x ≤ 9223372036854775807
   ·rw [decide_eq_true h1, decide_eq_true h2] at hy
    cases hy
    refine (Tryd.strconv_Itoa x h1 h2 W (tab_is hW (by kernel_rfl) hf)).mono ?_
    rintro e w' ⟨rfl, k, os, rfl⟩
    exact ⟨rfl, drew_grow W k os⟩
   ·rw [decide_eq_true h1, decide_eq_false h2] at hy; cases hy
  ·rw [decide_eq_false h1] at hy; cases hy
end Go.Rx
