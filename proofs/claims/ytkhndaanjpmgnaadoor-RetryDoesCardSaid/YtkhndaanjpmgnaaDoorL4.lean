/- Parts of a proof: evaluation of Go code over typed values, and what it computes. -/
import Derived.Test.YtkhndaanjpmgnaaDoorL3
import Derived.Test.YtkhndaanjpmgnaaDoorL2
import Derived.ProofKit
set_option linter.unusedSimpArgs false
set_option linter.unusedVariables false
set_option linter.unusedSectionVars false
namespace Go.Sq
open Go.Rx
def chain : DecT → List (Int × List Int) → Prop
 | _, [] => True
 | d, z :: r => (NextF d z.2).2 = (z.1, 0) ∧ chain (NextF d z.2).1 r
end Go.Sq
namespace Go.Sq
open Go.Rx
end Go.Sq
namespace Go.Sq
open Go.Rx
end Go.Sq
namespace Go.Sq
open Go.Rx
theorem bytesEqual_eq {a b : List Int} (ha : small a) (hb : small b) : g_slices_Equal_Sbyte_byte a b = some (decide (a = b)) := by
 unfold small at ha hb
 by_cases hl : a.length = b.length
 ·have step : ∀ i, i < a.length → a.getD i 0 = b.getD i 0 → g_slices_Equal_Sbyte_byte_r1 (a, b, (a.length : Int), (i : Int), ()) = some (.inl (a, b, (a.length : Int), ((i + 1 : Nat) : Int), ())) := fun i hi he => by
   simp (disch := omega) only [g_slices_Equal_Sbyte_byte_r1, dT, wT, Int.toNat_natCast, nF, wrap_i64]
   rfl
  rcases first_not (fun i => a.getD i 0 = b.getD i 0) a.length with h | ⟨k, hk, h, hn⟩
  ·have a1 : iter g_slices_Equal_Sbyte_byte_r1 (a, b, (a.length : Int), 0, ()) = some (.inl ()) := iter_count (fun i => (a, b, (a.length : Int), (i : Int), ())) a.length (fun i hi => step i hi (h i hi)) (by simp (disch := omega) only [g_slices_Equal_Sbyte_byte_r1, dF])
   simp (disch := omega) only [g_slices_Equal_Sbyte_byte, nF, a1, Option.bind_some]
   rw [decide_eq_true (list_ext_getD 0 hl h)]
  ·have a1 : iter g_slices_Equal_Sbyte_byte_r1 (a, b, (a.length : Int), 0, ()) = some (.inr (false, ())) := iter_count (fun i => (a, b, (a.length : Int), (i : Int), ())) k (fun i hi => step i (by omega) (h i hi)) (by simp (disch := omega) only [g_slices_Equal_Sbyte_byte_r1, dT, wT, Int.toNat_natCast, nT])
   simp (disch := omega) only [g_slices_Equal_Sbyte_byte, nF, a1, Option.bind_some]
   rw [decide_eq_false fun e => hn (by rw [e])]
 ·simp (disch := omega) only [g_slices_Equal_Sbyte_byte, nT]
  rw [decide_eq_false fun e => hl (by rw [e])]
theorem strOf_list (l : List Int) : (strOf l).toList = l.map fun n => UInt8.ofNat n.toNat := by
 rw [Go.ByteArray.toList_eq]; simp [strOf]
theorem ofNat_inj {a b : Nat} (ha : a < 256) (hb : b < 256) (h : UInt8.ofNat a = UInt8.ofNat b) : a = b := by
 have := congrArg UInt8.toNat h
 simp only [UInt8.toNat_ofNat'] at this
 omega
theorem map_u8_inj : ∀ {a b : List Int}, bytes a → bytes b → a.map (fun n => UInt8.ofNat n.toNat) = b.map (fun n => UInt8.ofNat n.toNat) → a = b
 | [], [], _, _, _ => rfl
 | [], _ :: _, _, _, h => by simp at h
 | _ :: _, [], _, _, h => by simp at h
 | x :: a, y :: b, ha, hb, h => by
  simp only [List.map_cons, List.cons.injEq] at h
  have hx := ha x List.mem_cons_self
  have hy := hb y List.mem_cons_self
  have h1 := ofNat_inj (by omega) (by omega) h.1
  rw [map_u8_inj (fun z hz => ha z (List.mem_cons_of_mem _ hz)) (fun z hz => hb z (List.mem_cons_of_mem _ hz)) h.2, show x = y by omega]
theorem strEq_eq {a b : List Int} (ha : bytes a) (hb : bytes b) : strEq (strOf a) (strOf b) = decide (a = b) := by
 unfold strEq
 rw [strOf_list, strOf_list, Bool.eq_iff_iff, beq_iff_eq, decide_eq_true_eq]
 exact ⟨map_u8_inj ha hb, fun h => by rw [h]⟩
end Go.Sq
namespace Go.Sq
open Go.Rx
end Go.Sq
namespace Go.Sq
open Go.Rx
end Go.Sq
namespace Go.Sq
open Go.Rx
end Go.Sq
